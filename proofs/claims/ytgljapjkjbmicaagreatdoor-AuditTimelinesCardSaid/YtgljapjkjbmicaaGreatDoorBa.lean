/- The machine: what its values stand for, the checked translation, soundness (part 1). Nothing here speaks of a program. -/
import Derived.Test.YtgljapjkjbmicaaGreatDoorRng
import Derived.Calls
import Derived.Laws.AppendOwn
import Derived.Below
import GoSem.Core.Layout
import GoSem.Machine.Frame
import Derived.Laws.StructEq
import Derived.Laws.Unary
import Derived.Laws.Slices
import Derived.Laws.Strings3
import Derived.ChangeKeysEq
set_option linter.unusedSimpArgs false
set_option linter.unusedVariables false
set_option linter.unusedSectionVars false
/- Lists of elements of one length, laid one behind the other. -/
namespace Go.Mx
section
variable {α : Type}
def Uni (n : Nat) (es : List (List α)) : Prop:=∀ e,e ∈ es -> e.length = n
theorem Uni.tail {n : Nat} {e : List α} {es : List (List α)} (h : Uni n (e :: es)) : Uni n es:=fun x hx=>h x (by simp [hx])
theorem Uni.head {n : Nat} {e : List α} {es : List (List α)} (h : Uni n (e :: es)) : e.length = n:=h e (by simp)
theorem Uni.len {n : Nat} : ∀ {es : List (List α)},Uni n es -> es.flatten.length = es.length * n
  | [],_=>by simp
  | e :: es,h=>by simp [h.head,h.tail.len,Abm]; omega
theorem Uni.append {n : Nat} {es fs : List (List α)} (h : Uni n es) (k : Uni n fs) : Uni n (es ++ fs):=fun x hx=>by
  rcases AbC.1 hx with h' | h'
  · exact h x h'
  · exact k x h'
theorem Uni.take {n : Nat} {es : List (List α)} (h : Uni n es) (k : Nat) : Uni n (es.take k):=fun x hx=>h x (AbZ hx)
theorem Uni.drop {n : Nat} {es : List (List α)} (h : Uni n es) (k : Nat) : Uni n (es.drop k):=fun x hx=>h x (List.mem_of_mem_drop hx)
theorem Uni.replicate {n k : Nat} {e : List α} (h : e.length = n) : Uni n (List.replicate k e):=fun x hx=>by rw [(List.mem_replicate.1 hx).2]; exact h
theorem Uni.get {n : Nat} {es : List (List α)} (h : Uni n es) {i : Nat} {e : List α} (he : es[i]? = some e) : e.length = n:=h e (AaS he)
theorem II {n k : Nat} {e f : List α} (h : e.length = n) : (e ++ f).drop (k + n) = f.drop k:=by
  rw [Nat.add_comm,<- List.drop_drop,<- h,List.drop_left]
theorem LJ {n k : Nat} {e f : List α} (h : e.length = n) : (e ++ f).take (k + n) = e ++ f.take k:=by
  rw [Nat.add_comm,List.take_add,<- h,List.take_left,List.drop_left]
theorem Fc {n : Nat} : ∀ {es : List (List α)},Uni n es -> ∀ k,(es.drop k).flatten = es.flatten.drop (k * n)
  | [],_,k=>by simp
  | e :: es,h,0=>by simp
  | e :: es,h,k + 1=>by
    rw [List.drop_succ_cons,Fc h.tail k,AbA,Abm,Nat.one_mul,II h.head]
theorem DR {n : Nat} : ∀ {es : List (List α)},Uni n es -> ∀ k,(es.take k).flatten = es.flatten.take (k * n)
  | [],_,k=>by simp
  | e :: es,h,0=>by simp
  | e :: es,h,k + 1=>by
    rw [List.take_succ_cons,AbA,DR h.tail k,AbA,Abm,Nat.one_mul,LJ h.head]
theorem Gl {n : Nat} {es : List (List α)} (h : Uni n es) {i : Nat} {e : List α} (he : es[i]? = some e) : e = (es.flatten.drop (i * n)).take n:=by
  have hl:=(AaI.1 he).1
  rw [<- Fc h,List.drop_eq_getElem_cons hl,AbA]
  have hi : es[i] = e:=(AaI.1 he).2
  rw [hi,List.take_append,Abc (by rw [h.get he]; exact AaQ _),h.get he]
  simp
theorem CI {n : Nat} {es : List (List α)} (h : Uni n es) {i : Nat} {e : List α} (he : es[i]? = some e) {j : Nat} {x : α} (hj : e[j]? = some x) : es.flatten[i * n + j]? = some x:=by
  rw [Gl h he] at hj
  rw [Abx] at hj
  split at hj
  · rwa [List.getElem?_drop] at hj
  · cases hj
theorem MC {n : Nat} (hn : 0 < n) {es : List (List α)} (h : Uni n es) {p : Nat} {x : α} (hp : es.flatten[p]? = some x) : ∃ e,es[p / n]? = some e /\ e[p % n]? = some x:=by
  have hl : p < es.length * n:=by rw [<- h.len]; exact (AaI.1 hp).1
  have hd : p / n < es.length:=(Nat.div_lt_iff_lt_mul hn).2 hl
  refine ⟨es[p / n],AaK hd,?_⟩
  rw [Gl h (AaK hd),Abx,AaN (Nat.mod_lt _ hn),List.getElem?_drop]
  have : p / n * n + p % n = p:=by rw [Aca]; exact Nat.div_add_mod p n
  rw [this]; exact hp
theorem Fi (n : Nat) : ∀ (k : Nat) (l : List α),(BK n k l).length = k
  | 0,_=>rfl
  | k + 1,l=>by simp [BK,Fi n k]
theorem Fh (n : Nat) : ∀ (k : Nat) (l : List α),k * n <= l.length -> Uni n (BK n k l)
  | 0,_,_=>fun _ h=>by simp [BK] at h
  | k + 1,l,h=>fun x hx=>by
    rw [Abm,Nat.one_mul] at h
    simp only [BK,Abd] at hx
    rcases hx with rfl | hx
    · simp; omega
    · exact Fh n k (l.drop n) (by simp; omega) x hx
theorem Ei (n : Nat) : ∀ (k : Nat) (l : List α),k * n <= l.length -> (BK n k l).flatten = l.take (k * n)
  | 0,_,_=>by simp [BK]
  | k + 1,l,h=>by
    rw [Abm,Nat.one_mul] at h ⊢
    rw [BK,AbA,Ei n k _ (by simp; omega),Nat.add_comm (k * n) n,List.take_add]
theorem BJ : ∀ {l : List α} {i : Nat} {x : α} {l' : List α},Bw l i x = some l' -> i < l.length /\ l' = l.set i x
  | [],i,x,l',h=>by simp [Bw] at h
  | y :: l,0,x,l',h=>by simp [Bw] at h; simp [<- h]
  | y :: l,i + 1,x,l',h=>by
    simp only [Bw,AaF,AaG] at h
    obtain ⟨m,hm,rfl⟩:=h
    obtain ⟨h1,rfl⟩:=BJ hm
    exact ⟨by simp; omega,rfl⟩
theorem Uni.set {n : Nat} {es : List (List α)} (h : Uni n es) {i : Nat} {e : List α} (he : e.length = n) : Uni n (es.set i e):=fun x hx=>by
  rcases List.mem_or_eq_of_mem_set hx with h' | h'
  · exact h x h'
  · rw [h']; exact he
theorem Ix {n : Nat} : ∀ {es : List (List α)},Uni n es -> ∀ {i : Nat} {e : List α},i < es.length -> e.length = n -> (es.set i e).flatten = es.flatten.take (i * n) ++ e ++ es.flatten.drop (i * n + n)
  | [],_,i,e,hi,_=>by simp at hi
  | x :: es,h,0,e,_,he=>by
    have hx:=II (k:=0) (f:=es.flatten) h.head
    rw [List.set_cons_zero,AbA,AbA,Nat.zero_mul,hx]
    simp
  | x :: es,h,i + 1,e,hi,he=>by
    rw [List.set_cons_succ,AbA,Ix h.tail (by simpa using hi) he,AbA,Abm,Nat.one_mul,LJ h.head,
      show i * n + n + n = (i * n + n) + n from rfl,II h.head]
    simp only [AbG]
end
end Go.Mx
/- What the abstract machine's values stand for in a world: RepI (immutable values over stable blocks), RepV (values with references), Ok (the rows and private boxes as they lie in the heap), Stp (what a step leaves as it was). -/
namespace Go.Mx
inductive RepI (w : World) (S : Nat -> Prop) : I -> Value -> Prop where
  | b (x : Bool) : RepI w S (.b x) (.bool x)
  | i (k : IntKind) (n : Int) : RepI w S (.i k n) (.int k n)
  | s (x : ByteArray) (l : List Nat) (h : x.data.toList.map UInt8.toNat = l) : RepI w S (.s l) (.string x)
  | nlp : RepI w S (.nl 0) (.pointer none)
  | nlm : RepI w S (.nl 1) (.map none)
  | nlf : RepI w S (.nl 2) .nilFunc
  | nli : RepI w S (.nl 3) .nilIface
  | nls : RepI w S (.nl 4) (.slice none 0 0)
  | er (t : TypeId) (v : Value) : RepI w S .er (.iface t v)
  | sl (es : List (List I)) (a : Option Addr) (cap esz b off : Nat) (cs : Nat -> Nat -> Value)
      (hcap : es.length <= cap) (hm : cap <= maxLen) (hsz : ∀ e,e ∈ es -> e.length = esz)
      (ha : es ≠ [] -> a = some ⟨b,off,none⟩ /\ S b) (hnn : ∃ p,a = some p)
      (hc : ∀ i e j x,es[i]? = some e -> e[j]? = some x -> w.cell? ⟨b,off + (i * esz + j),none⟩ = some (cs i j))
      (hr : ∀ i e j x,es[i]? = some e -> e[j]? = some x -> RepI w S x (cs i j)) : RepI w S (.sl es) (.slice a es.length cap)
  | pt (xs : List I) (b off : Nat) (cs : Nat -> Value) (hS : S b)
      (hc : ∀ (j : Nat) x,xs[j]? = some x -> w.cell? ⟨b,off + j,none⟩ = some (cs j))
      (hr : ∀ (j : Nat) x,xs[j]? = some x -> RepI w S x (cs j)) : RepI w S (.pt xs) (.pointer (some ⟨b,off,none⟩))
  | ag (xs : List I) (cs : Array Value) (hl : cs.size = xs.length) (c : Nat -> Value)
      (hc : ∀ (j : Nat) x,xs[j]? = some x -> cs[j]? = some (c j)) (hr : ∀ (j : Nat) x,xs[j]? = some x -> RepI w S x (c j)) : RepI w S (.ag xs) (.agg cs)
  | mp (es : List (List I)) (r : Nat) (ents : Array MapEntry) (clock : Nat) (ks xs : Nat -> Value) (hS : S r) (hw : w.heap[r]? = some (.map ents clock)) (hl : ents.size = es.length)
      (hp : ∀ (j : Nat) e,es[j]? = some e -> ∃ k x,e = [k,x])
      (hk : ∀ (j : Nat) k x,es[j]? = some [k,x] -> (ents[j]?).map (·.key) = some (ks j)) (hx : ∀ (j : Nat) k x,es[j]? = some [k,x] -> (ents[j]?).map (·.val) = some (xs j))
      (hkr : ∀ (j : Nat) k x,es[j]? = some [k,x] -> RepI w S k (ks j)) (hxr : ∀ (j : Nat) k x,es[j]? = some [k,x] -> RepI w S x (xs j)) : RepI w S (.mp es) (.map (some r))
  | fn (f : Nat) (hny : f ≠ yN) (xs : List I) (cs : Array Value) (hl : cs.size = xs.length) (c : Nat -> Value)
      (hc : ∀ (j : Nat) x,xs[j]? = some x -> cs[j]? = some (c j)) (hr : ∀ (j : Nat) x,xs[j]? = some x -> RepI w S x (c j)) : RepI w S (.fn f xs) (.func (.func f) #[] cs)
theorem RepI.mono {w w' : World} {S S' : Nat -> Prop} (hw : ∀ b,S b -> w'.heap[b]? = w.heap[b]?) (hS : ∀ b,S b -> S' b) {x : I} {c : Value} (h : RepI w S x c) : RepI w' S' x c:=by
  have hcell : ∀ b o,S b -> w'.cell? ⟨b,o,none⟩ = w.cell? ⟨b,o,none⟩:=fun b o h=>World.cell?_of_block (hw b h)
  induction h with
  | b x=>exact .b x
  | i k n=>exact .i k n
  | s x l h=>exact .s x l h
  | nlp=>exact .nlp
  | nlm=>exact .nlm
  | nlf=>exact .nlf
  | nli=>exact .nli
  | nls=>exact .nls
  | er t v=>exact .er t v
  | sl es a cap esz b off cs hcap hm hsz ha hnn hc hr ih =>
    refine .sl es a cap esz b off cs hcap hm hsz (fun hne=>⟨(ha hne).1,hS _ (ha hne).2⟩) hnn (fun i e j x hi hj=>?_) ih
    rw [hcell _ _ (ha (by rintro rfl; simp at hi)).2]
    exact hc i e j x hi hj
  | pt xs b off cs hSb hc hr ih=>exact .pt xs b off cs (hS _ hSb) (fun j x hj=>by rw [hcell _ _ hSb]; exact hc j x hj) ih
  | ag xs cs hl c hc hr ih=>exact .ag xs cs hl c hc ih
  | mp es r ents clock ks xs hSr hwr hl hp hk hx hkr hxr ihk ihx=>exact .mp es r ents clock ks xs (hS _ hSr) (by rw [hw _ hSr]; exact hwr) hl hp hk hx ihk ihx
  | fn f hny xs cs hl c hc hr ih=>exact .fn f hny xs cs hl c hc ih
theorem AK {α : Type} : ∀ (l : List α) (n : Nat),nth l n = l[n]?
  | [],n=>by simp [nth]
  | x :: l,0=>rfl
  | x :: l,n + 1=>by simp [nth,AK l n]
theorem Ah {α : Type} {b : Bool} {x : Option α} {y : α} : gd b x = some y ↔ b = true /\ x = some y:=by cases b <;> simp [gd]
def At (w : World) (S : Nat -> Prop) (g : Nat) (b ver esz n : Nat) : Prop :=
  b = g \/ (S b /\ ver ≠ n /\ ∀ j,j < ver * esz -> w.cell? ⟨b,j,none⟩ = w.cell? ⟨g,j,none⟩)
inductive RepV (w : World) (S : Nat -> Prop) (ρ : Nat -> Nat) (H : Hp) : V -> Value -> Prop where
  | m {x : I} {c : Value} (h : RepI w S x c) : RepV w S ρ H (.m x) c
  | un : RepV w S ρ H .un undef
  | ls (es : List (List I)) (a : Option Addr) (h : RepI w S (.sl es) (.slice a es.length es.length)) : RepV w S ρ H (.ls es) (.slice a es.length es.length)
  | sl (r ver esz st len : Nat) (lim : Bool) (ty : Nat) (es : List (List V)) (base : Nat) (fz : Bool) (a : Option Addr) (cap : Nat)
      (hrow : H[r]? = some (.cs ty esz es base fz)) (h1 : st + len <= ver) (h2 : ver <= es.length) (h3 : len <= cap) (h4 : cap <= maxLen) (h5 : lim = true -> cap = len) (hn : ∃ p,a = some p)
      (hb : base <= ver -> 0 < len -> ∃ b,a = some ⟨b,st * esz,none⟩ /\ At w S (ρ r) b ver esz es.length)
      (ha : ver = es.length -> st = 0 -> lim = false -> len = es.length -> a = some ⟨ρ r,0,none⟩ /\ ∃ cur mk,w.heap[ρ r]? = some (.cells cur ty mk) /\ cur.size = cap * esz) :
      RepV w S ρ H (.sl r ver esz st len lim) (.slice a len cap)
  | pt (r ver ix off : Nat) (ty esz : Nat) (es : List (List V)) (base : Nat) (fz : Bool) (p : Addr)
      (hrow : H[r]? = some (.cs ty esz es base fz)) (h2 : ver <= es.length) (hx : ix < ver)
      (hb : base <= ver -> ∃ b,p = ⟨b,ix * esz + off,none⟩ /\ At w S (ρ r) b ver esz es.length) : RepV w S ρ H (.pt r ver ix off) (.pointer (some p))
  | mp (r : Nat) (es : List (I × V)) (fz : Bool) (hrow : H[r]? = some (.mp es fz)) : RepV w S ρ H (.mp r) (.map (some (ρ r)))
  | yl (r st : Nat) (pd : Option (Option Nat)) (E : List (Nat × V)) (ps : List Nat) (ca cb : C) (hrow : H[r]? = some (.lp st pd E ps ca cb)) : RepV w S ρ H (.yl r) (.func (.yield (ρ r)) #[] #[])
  | fn (f : Nat) (hny : f ≠ yN) (xs : List V) (cs : Array Value) (hl : cs.size = xs.length) (c : Nat -> Value)
      (hc : ∀ (j : Nat) x,xs[j]? = some x -> cs[j]? = some (c j)) (hr : ∀ (j : Nat) x,xs[j]? = some x -> RepV w S ρ H x (c j)) : RepV w S ρ H (.fn f xs) (.func (.func f) #[] cs)
  | ag (xs : List V) (cs : Array Value) (hl : cs.size = xs.length) (c : Nat -> Value)
      (hc : ∀ (j : Nat) x,xs[j]? = some x -> cs[j]? = some (c j)) (hr : ∀ (j : Nat) x,xs[j]? = some x -> RepV w S ρ H x (c j)) : RepV w S ρ H (.ag xs) (.agg cs)
  | tu (xs : List V) (cs : Array Value) (hl : cs.size = xs.length) (c : Nat -> Value)
      (hc : ∀ (j : Nat) x,xs[j]? = some x -> cs[j]? = some (c j)) (hr : ∀ (j : Nat) x,xs[j]? = some x -> RepV w S ρ H x (c j)) : RepV w S ρ H (.tu xs) (.tuple cs)
def RepL (w : World) (S : Nat -> Prop) (ρ : Nat -> Nat) (H : Hp) (xs : List V) (cs : List Value) : Prop :=
  cs.length = xs.length /\ ∀ (j : Nat) x,xs[j]? = some x -> ∃ c,cs[j]? = some c /\ RepV w S ρ H x c
section
variable {w : World} {S : Nat -> Prop} {ρ : Nat -> Nat} {H : Hp}
theorem RepL.nil : RepL w S ρ H [] []:=⟨rfl,by simp⟩
theorem RepL.cons {x : V} {c : Value} {xs : List V} {cs : List Value} (h : RepV w S ρ H x c) (hs : RepL w S ρ H xs cs) : RepL w S ρ H (x :: xs) (c :: cs):=by
  refine ⟨by simp [hs.1],fun j y hj=>?_⟩
  cases j with
  | zero=>simp at hj; subst hj; exact ⟨c,by simp,h⟩
  | succ j=>simpa using hs.2 j y (by simpa using hj)
theorem RepL.head {x : V} {c : Value} {xs : List V} {cs : List Value} (h : RepL w S ρ H (x :: xs) (c :: cs)) : RepV w S ρ H x c:=by
  obtain ⟨c',hc,hr⟩:=h.2 0 x (by simp)
  simp at hc
  exact hc ▸ hr
theorem RepL.tail {x : V} {c : Value} {xs : List V} {cs : List Value} (h : RepL w S ρ H (x :: xs) (c :: cs)) : RepL w S ρ H xs cs :=
  ⟨by simpa using h.1,fun j y hj=>by simpa using h.2 (j + 1) y (by simpa using hj)⟩
theorem RepL.inv_nil {cs : List Value} (h : RepL w S ρ H [] cs) : cs = []:=Abf (by simpa using h.1)
theorem RepL.inv_cons {x : V} {xs : List V} {cs : List Value} (h : RepL w S ρ H (x :: xs) cs) : ∃ c r,cs = c :: r /\ RepV w S ρ H x c /\ RepL w S ρ H xs r:=by
  cases cs with
  | nil=>have:=h.1; simp at this
  | cons c r=>exact ⟨c,r,rfl,h.head,h.tail⟩
theorem RepL.append {xs ys : List V} {cs ds : List Value} (h : RepL w S ρ H xs cs) (k : RepL w S ρ H ys ds) : RepL w S ρ H (xs ++ ys) (cs ++ ds):=by
  induction xs generalizing cs with
  | nil=>rw [h.inv_nil]; exact k
  | cons x xs ih=>obtain ⟨c,r,rfl,hx,hr⟩:=h.inv_cons; exact .cons hx (ih hr)
theorem RepL.take {xs : List V} {cs : List Value} (h : RepL w S ρ H xs cs) (n : Nat) : RepL w S ρ H (xs.take n) (cs.take n):=by
  induction xs generalizing cs n with
  | nil=>rw [h.inv_nil]; simpa using RepL.nil
  | cons x xs ih =>
    obtain ⟨c,r,rfl,hx,hr⟩:=h.inv_cons
    cases n with
    | zero=>simpa using RepL.nil
    | succ n=>exact .cons hx (ih hr n)
theorem RepL.drop {xs : List V} {cs : List Value} (h : RepL w S ρ H xs cs) (n : Nat) : RepL w S ρ H (xs.drop n) (cs.drop n):=by
  induction xs generalizing cs n with
  | nil=>rw [h.inv_nil]; simpa using RepL.nil
  | cons x xs ih =>
    obtain ⟨c,r,rfl,hx,hr⟩:=h.inv_cons
    cases n with
    | zero=>simpa using h
    | succ n=>simpa using ih hr n
theorem RepL.of_skolem {xs : List V} {cs : Array Value} (hl : cs.size = xs.length) (c : Nat -> Value)
    (hc : ∀ (j : Nat) x,xs[j]? = some x -> cs[j]? = some (c j)) (hr : ∀ (j : Nat) x,xs[j]? = some x -> RepV w S ρ H x (c j)) : RepL w S ρ H xs cs.toList :=
  ⟨by simpa using hl,fun j x hj=>⟨c j,by simpa using hc j x hj,hr j x hj⟩⟩
theorem RepL.skolem {xs : List V} {cs : List Value} (h : RepL w S ρ H xs cs) : ∃ c : Nat -> Value,(∀ (j : Nat) x,xs[j]? = some x -> cs[j]? = some (c j)) /\ (∀ (j : Nat) x,xs[j]? = some x -> RepV w S ρ H x (c j)):=by
  refine ⟨fun j=>cs.getD j undef,fun j x hj=>?_,fun j x hj=>?_⟩
  · obtain ⟨c,hc,_⟩:=h.2 j x hj
    simp [hc]
  · obtain ⟨c,hc,hr⟩:=h.2 j x hj
    simpa [hc] using hr
theorem RepL.toAg {xs : List V} {cs : Array Value} (h : RepL w S ρ H xs cs.toList) : RepV w S ρ H (.ag xs) (.agg cs):=by
  obtain ⟨c,hc,hr⟩:=h.skolem
  exact .ag xs cs (by simpa using h.1) c (fun j x hj=>by simpa using hc j x hj) hr
theorem RepL.toTu {xs : List V} {cs : Array Value} (h : RepL w S ρ H xs cs.toList) : RepV w S ρ H (.tu xs) (.tuple cs):=by
  obtain ⟨c,hc,hr⟩:=h.skolem
  exact .tu xs cs (by simpa using h.1) c (fun j x hj=>by simpa using hc j x hj) hr
theorem RepL.toFn {f : Nat} (hny : f ≠ yN) {xs : List V} {cs : Array Value} (h : RepL w S ρ H xs cs.toList) : RepV w S ρ H (.fn f xs) (.func (.func f) #[] cs):=by
  obtain ⟨c,hc,hr⟩:=h.skolem
  exact .fn f hny xs cs (by simpa using h.1) c (fun j x hj=>by simpa using hc j x hj) hr
theorem RepV.agL {xs : List V} {c : Value} (h : RepV w S ρ H (.ag xs) c) : ∃ cs,c = .agg cs /\ RepL w S ρ H xs cs.toList:=by
  cases h with
  | ag xs cs hl c hc hr=>exact ⟨cs,rfl,.of_skolem hl c hc hr⟩
theorem RepV.tuL {xs : List V} {c : Value} (h : RepV w S ρ H (.tu xs) c) : ∃ cs,c = .tuple cs /\ RepL w S ρ H xs cs.toList:=by
  cases h with
  | tu xs cs hl c hc hr=>exact ⟨cs,rfl,.of_skolem hl c hc hr⟩
theorem RepV.fnL {f : Nat} {xs : List V} {c : Value} (h : RepV w S ρ H (.fn f xs) c) : f ≠ yN /\ ∃ cs,c = .func (.func f) #[] cs /\ RepL w S ρ H xs cs.toList:=by
  cases h with
  | fn f hny xs cs hl c hc hr=>exact ⟨hny,cs,rfl,.of_skolem hl c hc hr⟩
theorem RepV.imm {x : I} {c : Value} (h : RepV w S ρ H (.m x) c) : RepI w S x c:=by cases h; assumption
theorem RepL.ofI {xs : List I} {cs : Array Value} (hl : cs.size = xs.length) (c : Nat -> Value)
    (hc : ∀ (j : Nat) x,xs[j]? = some x -> cs[j]? = some (c j)) (hr : ∀ (j : Nat) x,xs[j]? = some x -> RepI w S x (c j)) : RepL w S ρ H (xs.map .m) cs.toList:=by
  refine ⟨by simpa using hl,fun j x hj=>?_⟩
  rw [Abb] at hj
  cases hx : xs[j]? with
  | none=>simp [hx] at hj
  | some y =>
    simp only [hx,AbE,AaG] at hj
    subst hj
    exact ⟨c j,by simpa using hc j y hx,.m (hr j y hx)⟩
theorem RepL.toI {xs : List I} {cs : List Value} (h : RepL w S ρ H (xs.map .m) cs) : cs.length = xs.length /\ ∃ c : Nat -> Value,(∀ (j : Nat) x,xs[j]? = some x -> cs[j]? = some (c j)) /\ ∀ (j : Nat) x,xs[j]? = some x -> RepI w S x (c j):=by
  obtain ⟨c,hc,hr⟩:=h.skolem
  refine ⟨by simpa using h.1,c,fun j x hj=>hc j (.m x) (by simp [hj]),fun j x hj=>(hr j (.m x) (by simp [hj])).imm⟩
theorem RepV.ofAgI {xs : List I} {c : Value} (h : RepV w S ρ H (.m (.ag xs)) c) : ∃ cs,c = .agg cs /\ RepL w S ρ H (xs.map .m) cs.toList:=by
  cases h.imm with
  | ag xs cs hl c hc hr=>exact ⟨cs,rfl,.ofI hl c hc hr⟩
theorem RepL.toAgI {xs : List I} {cs : Array Value} (h : RepL w S ρ H (xs.map .m) cs.toList) : RepV w S ρ H (.m (.ag xs)) (.agg cs):=by
  obtain ⟨hl,c,hc,hr⟩:=h.toI
  exact .m (.ag xs cs (by simpa using hl) c (fun j x hj=>by simpa using hc j x hj) hr)
theorem IJ : ∀ {xs : List V} {l : List I},Cc xs = some l -> xs = l.map .m
  | [],l,h=>by simp [Cc] at h; simp [h]
  | .m x :: xs,l,h=>by
    simp only [Cc,AaF,AaG] at h
    obtain ⟨l',h',rfl⟩:=h
    simp [IJ h']
  | .un :: _,_,h=>by simp [Cc] at h
  | .ls _ :: _,_,h=>by simp [Cc] at h
  | .sl .. :: _,_,h=>by simp [Cc] at h
  | .pt .. :: _,_,h=>by simp [Cc] at h
  | .fa .. :: _,_,h=>by simp [Cc] at h
  | .mp _ :: _,_,h=>by simp [Cc] at h
  | .fn .. :: _,_,h=>by simp [Cc] at h
  | .ag _ :: _,_,h=>by simp [Cc] at h
  | .tu _ :: _,_,h=>by simp [Cc] at h
theorem RepL.mkAg {xs : List V} {cs : Array Value} (h : RepL w S ρ H xs cs.toList) : RepV w S ρ H (mkAg xs) (.agg cs):=by
  unfold Mx.mkAg
  cases hx : Cc xs with
  | none=>exact h.toAg
  | some l=>rw [IJ hx] at h; exact h.toAgI
theorem RepV.cells {v : V} {c : Value} {l : List V} (h : RepV w S ρ H v c) (hl : Av v = some l) : RepL w S ρ H l c.cells.toList:=by
  have one : ∀ {v : V} {c : Value},RepV w S ρ H v c -> c.cells = #[c] -> RepL w S ρ H [v] c.cells.toList:=fun h e=>by rw [e]; exact .cons h .nil
  cases h with
  | m hI=>cases hI with
    | ag xs cs hl' c hc hr=>simp [Av] at hl; subst hl; exact RepL.ofI hl' c hc hr
    | b x=>simp [Av] at hl; subst hl; exact one (.m (.b x)) rfl
    | i k n=>simp [Av] at hl; subst hl; exact one (.m (.i k n)) rfl
    | s x l' h=>simp [Av] at hl; subst hl; exact one (.m (.s x l' h)) rfl
    | nlp=>simp [Av] at hl; subst hl; exact one (.m .nlp) rfl
    | nlm=>simp [Av] at hl; subst hl; exact one (.m .nlm) rfl
    | nlf=>simp [Av] at hl; subst hl; exact one (.m .nlf) rfl
    | nli=>simp [Av] at hl; subst hl; exact one (.m .nli) rfl
    | nls=>simp [Av] at hl; subst hl; exact one (.m .nls) rfl
    | er t v=>simp [Av] at hl; subst hl; exact one (.m (.er t v)) rfl
    | sl es a cap esz b off cs hcap hm hsz ha hnn hc hr=>simp [Av] at hl; subst hl; exact one (.m (.sl es a cap esz b off cs hcap hm hsz ha hnn hc hr)) rfl
    | pt xs b off cs hS hc hr=>simp [Av] at hl; subst hl; exact one (.m (.pt xs b off cs hS hc hr)) rfl
    | mp es r ents clock ks xs hS hw hl' hp hk hx hkr hxr=>simp [Av] at hl; subst hl; exact one (.m (.mp es r ents clock ks xs hS hw hl' hp hk hx hkr hxr)) rfl
    | fn f hny xs cs hl' c hc hr=>simp [Av] at hl; subst hl; exact one (.m (.fn f hny xs cs hl' c hc hr)) rfl
  | un=>simp [Av] at hl
  | ls es a h=>simp [Av] at hl; subst hl; exact one (.ls es a h) rfl
  | sl r ver esz st len lim ty es base fz a cap hrow h1 h2 h3 h4 h5 hn hb ha=>simp [Av] at hl; subst hl; exact one (.sl r ver esz st len lim ty es base fz a cap hrow h1 h2 h3 h4 h5 hn hb ha) rfl
  | pt r ver ix off ty esz es base fz p hrow h2 hx hb=>simp [Av] at hl; subst hl; exact one (.pt r ver ix off ty esz es base fz p hrow h2 hx hb) rfl
  | mp r es fz hrow=>simp [Av] at hl; subst hl; exact one (.mp r es fz hrow) rfl
  | yl r st pd E ps ca cb hrow=>simp [Av] at hl; subst hl; exact one (.yl r st pd E ps ca cb hrow) rfl
  | fn f hny xs cs hl' c hc hr=>simp [Av] at hl; subst hl; exact one (.fn f hny xs cs hl' c hc hr) rfl
  | ag xs cs hl' c hc hr=>simp [Av] at hl; subst hl; exact RepL.of_skolem hl' c hc hr
  | tu xs cs hl' c hc hr=>simp [Av] at hl
def stM : Nat -> Option LoopState
  | 0=>some .ready
  | 1=>some .busy
  | 2=>some .done
  | 3=>some .exhausted
  | _=>none
def pdM : Option (Option Nat) -> Option Code
  | none=>none
  | some none=>some .ret
  | some (some id)=>some (.exit id)
def Win (n : Nat) (mk : Nat × Nat) : Prop:=mk = (0,0) \/ n <= mk.1
def Brn (ents : Array MapEntry) (clock : Nat) : Prop:=(∀ x,x ∈ ents.toList -> x.born < clock) /\ (ents.toList.map (·.born)).Nodup
def RowOk (w : World) (S : Nat -> Prop) (ρ : Nat -> Nat) (H : Hp) (r : Nat) : Row -> Prop
  | .cs ty esz es base fz=>base <= es.length /\ 0 < esz /\ (∀ e,e ∈ es -> e.length = esz) /\ (fz = true -> S (ρ r)) /\ (fz = false -> ¬ S (ρ r)) /\
      ∃ cur cap mk,w.heap[ρ r]? = some (.cells cur ty mk) /\ (fz = false -> Win cur.size mk) /\ cur.size = cap * esz /\ es.length <= cap /\ cap <= maxLen /\
        RepL w S ρ H es.flatten (cur.toList.take (es.length * esz))
  | .mp es fz=>(fz = true -> S (ρ r)) /\ (fz = false -> ¬ S (ρ r)) /\ ∃ ents clock,w.heap[ρ r]? = some (.map ents clock) /\ (ents.size = es.length /\ Brn ents clock) /\
        ∀ (j : Nat) k x,es[j]? = some (k,x) -> ∃ ent,ents[j]? = some ent /\ RepI w S k ent.key /\ RepV w S ρ H x ent.val
  | .lp st pd E ps ca cb=>¬ S (ρ r) /\ ∃ (rec : Loop) (hi : Hint) (dr : Nat -> List Nat),w.heap[ρ r]? = some (.loop rec) /\ rec.params.toList = ps /\ RelC hi dr rec.assign ca /\ RelC hi dr rec.body cb /\ wfC rec.tmps.size ca = true /\ wfC rec.tmps.size cb = true /\
        (∀ p,p ∈ ps -> hi.loc p = false /\ p < rec.tmps.size) /\ stM st = some rec.state /\ pdM pd = rec.pending /\ ∀ n v,BA E n = some v -> hi.loc n = false /\ AE v = true /\ RepV w S ρ H v (rec.tmps.getD n undef)
structure Ok (w : World) (S : Nat -> Prop) (ρ β : Nat -> Nat) (M : Mem) : Prop where
  rows : ∀ r row,M.H[r]? = some row -> RowOk w S ρ M.H r row
  boxes : ∀ d cs,getB M.B d = some cs -> ∃ cur T,w.heap[β d]? = some (.cells cur T (0,0)) /\ RepL w S ρ M.H cs cur.toList
  inj : ∀ r r',r < M.H.length -> r' < M.H.length -> ρ r = ρ r' -> r = r'
  bij : ∀ d d',(getB M.B d).isSome -> (getB M.B d').isSome -> β d = β d' -> d = d'
  rb : ∀ r d,r < M.H.length -> (getB M.B d).isSome -> ρ r ≠ β d
  bns : ∀ d,(getB M.B d).isSome -> ¬ S (β d)
  lt : ∀ b,S b -> b < w.heap.size
theorem Ok.rlt {w : World} {S : Nat -> Prop} {ρ β : Nat -> Nat} {M : Mem} (h : Ok w S ρ β M) {r : Nat} (hr : r < M.H.length) : ρ r < w.heap.size:=by
  obtain ⟨row,hrow⟩ : ∃ row,M.H[r]? = some row:=⟨_,AaK hr⟩
  have lt : ∀ o,w.heap[ρ r]? = some o -> ρ r < w.heap.size:=fun o ho=>(Abk.1 ho).1
  cases row with
  | cs ty esz es base fz=>obtain ⟨_,_,_,_,_,cur,cap,mk,hh,_⟩:=h.rows r _ hrow; exact lt _ hh
  | mp es fz=>obtain ⟨_,_,ents,clock,hh,_⟩:=h.rows r _ hrow; exact lt _ hh
  | lp st pd E ps ca cb=>obtain ⟨_,rec,_,_,hh,_⟩:=h.rows r _ hrow; exact lt _ hh
theorem Ok.blt {w : World} {S : Nat -> Prop} {ρ β : Nat -> Nat} {M : Mem} (h : Ok w S ρ β M) {d : Nat} (hd : (getB M.B d).isSome) : β d < w.heap.size:=by
  obtain ⟨cs,hcs⟩:=AbB.1 hd
  obtain ⟨cur,T,hh,_⟩:=h.boxes d cs hcs
  exact (Abk.1 hh).1
structure Gw (w w' : World) (row : Option Nat) : Prop extends World.grownBy w w' row where
  drawn : drawM = true -> w.drawn <= w'.drawn
theorem Gw.alloc (w : World) (x : Obj) (row : Option Nat) : Gw w (w.alloc x) row:=⟨World.grownBy_alloc w x row,fun _=>AaQ _⟩
structure Stp (w : World) (S : Nat -> Prop) (ρ β : Nat -> Nat) (M : Mem) (w' : World) (S' : Nat -> Prop) (ρ' : Nat -> Nat) (H' : Hp) : Prop where
  vals : ∀ v c,RepV w S ρ M.H v c -> RepV w' S' ρ' H' v c
  stab : ∀ b,S b -> S' b
  heap : ∀ b,S b -> w'.heap[b]? = w.heap[b]?
  keep : ∀ b,b < w.heap.size -> (∀ r,r < M.H.length -> b ≠ ρ r) -> (∀ d,(getB M.B d).isSome -> b ≠ β d) -> w'.heap[b]? = w.heap[b]?
  news : ∀ b,S' b -> S b \/ w.heap.size <= b \/ ∃ r,r < M.H.length /\ b = ρ r
  rown : ∀ r,r < H'.length -> (∃ q,q < M.H.length /\ ρ' r = ρ q) \/ w.heap.size <= ρ' r
  size : w.heap.size <= w'.heap.size
  os : w'.os = w.os
  tape : w'.tape = w.tape
  output : w'.output = w.output
  drawn : drawM = true -> w.drawn <= w'.drawn
theorem Stp.imm {w : World} {S : Nat -> Prop} {ρ β : Nat -> Nat} {M : Mem} {w' : World} {S' : Nat -> Prop} {ρ' : Nat -> Nat} {H' : Hp} (h : Stp w S ρ β M w' S' ρ' H') {x : I} {c : Value} (hx : RepI w S x c) : RepI w' S' x c :=
  (h.vals (.m x) c (.m hx)).imm
theorem Stp.list {w : World} {S : Nat -> Prop} {ρ β : Nat -> Nat} {M : Mem} {w' : World} {S' : Nat -> Prop} {ρ' : Nat -> Nat} {H' : Hp} (h : Stp w S ρ β M w' S' ρ' H') {xs : List V} {cs : List Value} (hx : RepL w S ρ M.H xs cs) : RepL w' S' ρ' H' xs cs :=
  ⟨hx.1,fun j x hj=>let ⟨c,hc,hr⟩:=hx.2 j x hj; ⟨c,hc,h.vals _ _ hr⟩⟩
theorem Stp.refl (w : World) (S : Nat -> Prop) (ρ β : Nat -> Nat) (M : Mem) : Stp w S ρ β M w S ρ M.H :=
  ⟨fun _ _ h=>h,fun _ h=>h,fun _ _=>rfl,fun _ _ _ _=>rfl,fun _ h=>.inl h,fun r h=>.inl ⟨r,h,rfl⟩,AaQ _,rfl,rfl,rfl,fun _=>AaQ _⟩
end
end Go.Mx
/- Steps of memory: what a draw, a new block, a store, a new row, an append leave of the rows, the private boxes and the values. -/
namespace Go.Mx
structure RowsTo (w : World) (S : Nat -> Prop) (ρ : Nat -> Nat) (H : Hp) (w' : World) (S' : Nat -> Prop) (ρ' : Nat -> Nat) (H' : Hp) : Prop where
  hw : ∀ b,S b -> w'.heap[b]? = w.heap[b]?
  hS : ∀ b,S b -> S' b
  cs : ∀ r ty esz es base fz,H[r]? = some (.cs ty esz es base fz) -> ∃ es' base' fz',H'[r]? = some (.cs ty esz es' base' fz') /\ es.length <= es'.length /\ base <= base' /\
    (∀ b ver,ver <= es.length -> base' <= ver -> At w S (ρ r) b ver esz es.length -> At w' S' (ρ' r) b ver esz es'.length) /\
    (es'.length = es.length -> ρ' r = ρ r /\ ∀ cur mk,w.heap[ρ r]? = some (.cells cur ty mk) -> ∃ cur' mk',w'.heap[ρ r]? = some (.cells cur' ty mk') /\ cur'.size = cur.size)
  mp : ∀ r es fz,H[r]? = some (.mp es fz) -> ρ' r = ρ r /\ ∃ es' fz',H'[r]? = some (.mp es' fz')
  lp : ∀ r st pd E ps ca cb,H[r]? = some (.lp st pd E ps ca cb) -> ρ' r = ρ r /\ ∃ st' pd',H'[r]? = some (.lp st' pd' E ps ca cb)
theorem RepV.mono {w w' : World} {S S' : Nat -> Prop} {ρ ρ' : Nat -> Nat} {H H' : Hp} (hto : RowsTo w S ρ H w' S' ρ' H') {v : V} {c : Value} (h : RepV w S ρ H v c) : RepV w' S' ρ' H' v c:=by
  induction h with
  | m hI=>exact .m (hI.mono hto.hw hto.hS)
  | un=>exact .un
  | ls es a hI=>exact .ls es a (hI.mono hto.hw hto.hS)
  | sl r ver esz st len lim ty es base fz a cap hrow h1 h2 h3 h4 h5 hn hb ha =>
    obtain ⟨es',base',fz',hrow',hlen,hbase,hat,hsame⟩:=hto.cs r ty esz es base fz hrow
    refine .sl r ver esz st len lim ty es' base' fz' a cap hrow' h1 (by omega) h3 h4 h5 hn (fun hv hl=>?_) (fun hv hs hl he=>?_)
    · obtain ⟨b,hab,hA⟩:=hb (by omega) hl
      exact ⟨b,hab,hat b ver h2 hv hA⟩
    · obtain ⟨hρ,hcur⟩:=hsame (by omega)
      obtain ⟨hab,cur,mk,hh,hsz⟩:=ha (by omega) hs hl (by omega)
      obtain ⟨cur',mk',hh',hsz'⟩:=hcur cur mk hh
      exact ⟨by rw [hρ]; exact hab,cur',mk',by rw [hρ]; exact hh',by rw [hsz',hsz]⟩
  | pt r ver ix off ty esz es base fz p hrow h2 hx hb =>
    obtain ⟨es',base',fz',hrow',hlen,hbase,hat,hsame⟩:=hto.cs r ty esz es base fz hrow
    refine .pt r ver ix off ty esz es' base' fz' p hrow' (by omega) hx (fun hv=>?_)
    obtain ⟨b,hp,hA⟩:=hb (by omega)
    exact ⟨b,hp,hat b ver h2 hv hA⟩
  | mp r es fz hrow =>
    obtain ⟨hρ,es',fz',hrow'⟩:=hto.mp r es fz hrow
    rw [<- hρ]
    exact .mp r es' fz' hrow'
  | yl r st pd E ps ca cb hrow =>
    obtain ⟨hρ,st',pd',hrow'⟩:=hto.lp r st pd E ps ca cb hrow
    rw [<- hρ]
    exact .yl r st' pd' E ps ca cb hrow'
  | fn f hny xs cs hl c hc hr ih=>exact .fn f hny xs cs hl c hc ih
  | ag xs cs hl c hc hr ih=>exact .ag xs cs hl c hc ih
  | tu xs cs hl c hc hr ih=>exact .tu xs cs hl c hc ih
section
variable {w w' : World} {S S' : Nat -> Prop} {ρ ρ' β β' : Nat -> Nat} {M M' : Mem}
theorem RepL.mono {H H' : Hp} (hto : RowsTo w S ρ H w' S' ρ' H') {xs : List V} {cs : List Value} (h : RepL w S ρ H xs cs) : RepL w' S' ρ' H' xs cs :=
  ⟨h.1,fun j x hj=>let ⟨c,hc,hr⟩:=h.2 j x hj; ⟨c,hc,hr.mono hto⟩⟩
theorem RowsTo.stp (hto : RowsTo w S ρ M.H w' S' ρ' M'.H) {row : Option Nat} (hg : Gw w w' row)
    (hrow : ∀ b,row = some b -> (∃ r,r < M.H.length /\ b = ρ r) \/ ∃ d,(getB M.B d).isSome /\ b = β d)
    (hnews : ∀ b,S' b -> S b \/ w.heap.size <= b \/ ∃ r,r < M.H.length /\ b = ρ r) (hrn : ∀ r,r < M'.H.length -> (∃ q,q < M.H.length /\ ρ' r = ρ q) \/ w.heap.size <= ρ' r) : Stp w S ρ β M w' S' ρ' M'.H where
  vals _ _ h:=h.mono hto
  stab:=hto.hS
  heap:=hto.hw
  keep b hb hr hd:=hg.block b hb (fun e=>by
    rcases hrow b e.symm with ⟨r,hr',e⟩ | ⟨d,hd',e⟩
    · exact hr r hr' e
    · exact hd d hd' e)
  news:=hnews
  rown:=hrn
  size:=hg.size
  os:=hg.os
  tape:=hg.tape
  output:=hg.output
  drawn:=hg.drawn
theorem At.same {g b ver esz n : Nat} (hw : ∀ b,S b -> w'.heap[b]? = w.heap[b]?) (hS : ∀ b,S b -> S' b) (hg : w'.heap[g]? = w.heap[g]?) (h : At w S g b ver esz n) : At w' S' g b ver esz n:=by
  rcases h with h | ⟨hb,hv,he⟩
  · exact .inl h
  · refine .inr ⟨hS b hb,hv,fun j hj=>?_⟩
    rw [World.cell?_of_block (a:=⟨b,j,none⟩) (hw b hb),World.cell?_of_block (a:=⟨g,j,none⟩) hg]
    exact he j hj
theorem RowOk.same {H H' : Hp} {r : Nat} {row : Row} (hto : RowsTo w S ρ H w' S' ρ' H') (hρ : ρ' r = ρ r) (hg : w'.heap[ρ r]? = w.heap[ρ r]?) (hn : S' (ρ r) -> S (ρ r)) (h : RowOk w S ρ H r row) : RowOk w' S' ρ' H' r row:=by
  cases row with
  | cs ty esz es base fz =>
    obtain ⟨h1,h2,h3,h4,h5,cur,cap,mk,h6,h7,h8,h9,h10,h11⟩:=h
    refine ⟨h1,h2,h3,fun e=>by rw [hρ]; exact hto.hS _ (h4 e),fun e hs=>h5 e (hn (hρ ▸ hs)),cur,cap,mk,by rw [hρ,hg]; exact h6,h7,h8,h9,h10,h11.1,fun j x hj=>?_⟩
    obtain ⟨c,hc,hr⟩:=h11.2 j x hj
    exact ⟨c,hc,hr.mono hto⟩
  | mp es fz =>
    obtain ⟨h4,h5,ents,clock,h6,h7,h8⟩:=h
    refine ⟨fun e=>by rw [hρ]; exact hto.hS _ (h4 e),fun e hs=>h5 e (hn (hρ ▸ hs)),ents,clock,by rw [hρ,hg]; exact h6,h7,fun j k x hj=>?_⟩
    obtain ⟨ent,hent,hk,hx⟩:=h8 j k x hj
    exact ⟨ent,hent,hk.mono hto.hw hto.hS,hx.mono hto⟩
  | lp st pd E ps ca cb =>
    obtain ⟨h1,rec,hi,dr,h2,h3,h4,h5,h6,h7,h8,h9,h10,h11⟩:=h
    exact ⟨fun hs=>h1 (hn (hρ ▸ hs)),rec,hi,dr,by rw [hρ,hg]; exact h2,h3,h4,h5,h6,h7,h8,h9,h10,fun n v hv=>let ⟨k1,k2,k3⟩:=h11 n v hv; ⟨k1,k2,k3.mono hto⟩⟩
theorem RowsTo.grow (hok : Ok w S ρ β M) (hg : Gw w w' none) (hS : ∀ b,S b -> S' b) : RowsTo w S ρ M.H w' S' ρ M.H:=by
  have old : ∀ b,b < w.heap.size -> w'.heap[b]? = w.heap[b]?:=fun b hb=>hg.block b hb (by simp)
  refine ⟨fun b hb=>old b (hok.lt b hb),hS,fun r ty esz es base fz hrow=>?_,fun r es fz hrow=>⟨rfl,es,fz,hrow⟩,fun r st pd E ps ca cb hrow=>⟨rfl,st,pd,hrow⟩⟩
  have hlt:=hok.rlt (AaI.1 hrow).1
  exact ⟨es,base,fz,hrow,AaQ _,AaQ _,fun b ver _ _ hA=>hA.same (fun b hb=>old b (hok.lt b hb)) hS (old _ hlt),fun _=>⟨rfl,fun cur mk h=>⟨cur,mk,by rw [old _ hlt]; exact h,rfl⟩⟩⟩
theorem Ok.grow (hok : Ok w S ρ β M) (hg : Gw w w' none) (hS : ∀ b,S b -> S' b) (hn : ∀ b,S' b -> S b \/ w.heap.size <= b) (hl : ∀ b,S' b -> b < w'.heap.size) :
    Ok w' S' ρ β M /\ Stp w S ρ β M w' S' ρ M.H:=by
  have hto:=RowsTo.grow hok hg hS
  have old : ∀ b,b < w.heap.size -> w'.heap[b]? = w.heap[b]?:=fun b hb=>hg.block b hb (by simp)
  refine ⟨⟨fun r row hrow=>?_,fun d cs hd=>?_,hok.inj,hok.bij,hok.rb,fun d hd hs=>?_,hl⟩,hto.stp (M:=M) (M':=M) hg (by simp) (fun b hb=>(hn b hb).imp id .inl) fun r h=>.inl ⟨r,h,rfl⟩⟩
  · have hlt:=hok.rlt (AaI.1 hrow).1
    exact (hok.rows r row hrow).same hto rfl (old _ hlt) (fun hs=>(hn _ hs).resolve_right (by omega))
  · have hlt:=hok.blt (d:=d) (by simp [hd])
    obtain ⟨cur,T,hh,hr⟩:=hok.boxes d cs hd
    exact ⟨cur,T,by rw [old _ hlt]; exact hh,hr.mono hto⟩
  · have hlt:=hok.blt hd
    exact hok.bns d hd ((hn _ hs).resolve_right (by omega))
theorem Ok.newRow (hok : Ok w S ρ β M) (hg : Gw w w' none) (hS : ∀ b,S b -> S' b) (hn : ∀ b,S' b -> S b \/ w.heap.size <= b) (hl : ∀ b,S' b -> b < w'.heap.size) {g : Nat} {row : Row}
    (hgn : w.heap.size <= g) (hrow : RowsTo w S ρ M.H w' S' (fun r=>if r = M.H.length then g else ρ r) (M.H ++ [row]) -> RowOk w' S' (fun r=>if r = M.H.length then g else ρ r) (M.H ++ [row]) M.H.length row) :
    Ok w' S' (fun r=>if r = M.H.length then g else ρ r) β { M with H:=M.H ++ [row] } /\ Stp w S ρ β M w' S' (fun r=>if r = M.H.length then g else ρ r) (M.H ++ [row]):=by
  have old : ∀ b,b < w.heap.size -> w'.heap[b]? = w.heap[b]?:=fun b hb=>hg.block b hb (by simp)
  have hA:=RowsTo.grow hok hg hS
  have hρ : ∀ r,r < M.H.length -> (if r = M.H.length then g else ρ r) = ρ r:=fun r hr=>AaL (by omega)
  have hto : RowsTo w S ρ M.H w' S' (fun r=>if r = M.H.length then g else ρ r) (M.H ++ [row]):=by
    refine ⟨hA.hw,hA.hS,fun r ty esz es base fz hr=>?_,fun r es fz hr=>?_,fun r st pd E ps ca cb hr=>?_⟩
    · have hlt:=(AaI.1 hr).1
      obtain ⟨es',base',fz',h1,h2,h3,h4,h5⟩:=hA.cs r ty esz es base fz hr
      exact ⟨es',base',fz',by rw [Aba hlt]; exact h1,h2,h3,fun b ver a1 a2 a3=>by rw [hρ r hlt]; exact h4 b ver a1 a2 a3,fun e=>by rw [hρ r hlt]; exact h5 e⟩
    · have hlt:=(AaI.1 hr).1
      exact ⟨hρ r hlt,es,fz,by rw [Aba hlt]; exact hr⟩
    · have hlt:=(AaI.1 hr).1
      exact ⟨hρ r hlt,st,pd,by rw [Aba hlt]; exact hr⟩
  have hR:=hrow hto
  have hgl : g < w'.heap.size:=by
    have hh : ∃ o,w'.heap[g]? = some o:=by
      cases row with
      | cs ty esz es base fz=>obtain ⟨_,_,_,_,_,cur,cap,mk,hh,_⟩:=hR; exact ⟨_,by simpa using hh⟩
      | mp es fz=>obtain ⟨_,_,ents,clock,hh,_⟩:=hR; exact ⟨_,by simpa using hh⟩
      | lp st pd E ps ca cb=>obtain ⟨_,rec,_,_,hh,_⟩:=hR; exact ⟨_,by simpa using hh⟩
    obtain ⟨o,hh⟩:=hh
    exact (Abk.1 hh).1
  refine ⟨⟨fun r row' hr=>?_,fun d cs hd=>?_,fun r r' h1 h2 e=>?_,hok.bij,fun r d h1 h2 e=>?_,fun d hd hs=>?_,hl⟩,hto.stp (M:=M) (M':={ M with H:=M.H ++ [row] }) hg (by simp) (fun b hb=>(hn b hb).imp id .inl) fun r h=>(by
      by_cases c : r = M.H.length
      · exact .inr (by rw [AaN c]; exact hgn)
      · simp only [AaX,AbD,AbP] at h
        exact .inl ⟨r,by omega,AaL c⟩)⟩
  · by_cases hlt : r < M.H.length
    · simp only [Aba hlt] at hr
      have hrl:=hok.rlt hlt
      exact (hok.rows r row' hr).same hto (hρ r hlt) (old _ hrl) (fun hs=>(hn _ hs).resolve_right (by omega))
    · have hr2:=(AaI.1 hr).1
      simp only [AaX,AbD,AbP] at hr2
      have hre : r = M.H.length:=by omega
      subst hre
      simp at hr
      subst hr
      exact hR
  · have hlt:=hok.blt (d:=d) (by simpa using (by rw [hd]; rfl : (getB M.B d).isSome = true))
    obtain ⟨cur,T,hh,hr⟩:=hok.boxes d cs hd
    exact ⟨cur,T,by rw [old _ hlt]; exact hh,hr.mono hto⟩
  · simp only [AaX,AbD,AbP] at h1 h2
    by_cases c1 : r = M.H.length <;> by_cases c2 : r' = M.H.length
    · omega
    · rw [AaN c1,AaL c2] at e
      have:=hok.rlt (r:=r') (by omega)
      omega
    · rw [AaL c1,AaN c2] at e
      have:=hok.rlt (r:=r) (by omega)
      omega
    · rw [AaL c1,AaL c2] at e
      exact hok.inj r r' (by omega) (by omega) e
  · simp only [AaX,AbD,AbP] at h1
    by_cases c1 : r = M.H.length
    · rw [AaN c1] at e
      have:=hok.blt h2
      omega
    · rw [AaL c1] at e
      exact hok.rb r d (by omega) h2 e
  · have hlt:=hok.blt hd
    exact hok.bns d hd ((hn _ hs).resolve_right (by omega))
theorem UA {a b : Nat} (h : a ≠ b) : Nat.beq a b = false:=by
  cases hb : Nat.beq a b with
  | true=>exact absurd (AaY hb) h
  | false=>rfl
theorem Bn (B : List (Nat × List V)) (d : Nat) (cs : List V) (k : Nat) : getB (DB B d cs) k = if k = d then some cs else getB B k:=by
  induction B with
  | nil =>
    simp only [DB,getB]
    by_cases h : k = d
    · subst h; simp
    · rw [AaL h]
      have : Nat.beq d k = false:=UA fun e=>h e.symm
      rw [this]
  | cons p r ih =>
    obtain ⟨a,x⟩:=p
    simp only [DB]
    cases hab : Nat.beq a d with
    | true =>
      have hab':=AaY hab
      subst hab'
      simp only [getB]
      by_cases h : k = a
      · subst h; simp
      · rw [AaL h]
        have : Nat.beq a k = false:=UA fun e=>h e.symm
        rw [this]
    | false =>
      have hab' : a ≠ d:=Nat.ne_of_beq_eq_false hab
      cases Nat.blt d a with
      | true =>
        simp only [getB]
        by_cases h : k = d
        · subst h; simp
        · rw [AaL h]
          have : Nat.beq d k = false:=UA fun e=>h e.symm
          rw [this]
      | false =>
      simp only [getB]
      cases hak : Nat.beq a k with
      | true =>
        have hak':=AaY hak
        rw [AaL (by omega)]
      | false=>exact ih
theorem Pp (B : List (Nat × List V)) (n m : Nat) (x y : List V) (h : n ≠ m) : DB (DB B n x) m y = DB (DB B m y) n x:=by
  have blt : ∀ a b : Nat,Nat.blt a b = decide (a < b):=fun a b=>by
    rw [Abu]; simp [AbU]
  have beq' : ∀ a b : Nat,Nat.beq a b = decide (a = b):=fun a b=>by
    rw [Abu]; simp [AaV]
  induction B with
  | nil =>
    simp only [DB,blt,beq']
    rcases Nat.lt_or_gt_of_ne h with h' | h'
    · have : ¬ m < n:=by omega
      simp [this,h',h,Ne.symm h]
    · have : ¬ n < m:=by omega
      simp [this,h',h,Ne.symm h]
  | cons p r ih =>
    obtain ⟨k,z⟩:=p
    simp only [DB,blt,beq']
    rcases Nat.lt_trichotomy n k with h1 | h1 | h1 <;> rcases Nat.lt_trichotomy m k with h2 | h2 | h2 <;> rcases Nat.lt_or_gt_of_ne h with h3 | h3 <;>
      first
        | (exfalso; omega)
        | (simp (disch:=omega) only [DB,blt,beq',AaP,AaO]; done)
        | (simp (disch:=omega) only [DB,blt,beq',AaP,AaO,ih]; done)
theorem Ok.newBox (hok : Ok w S ρ β M) (hg : Gw w w' none) (hS : ∀ b,S b -> S' b) (hn : ∀ b,S' b -> S b \/ w.heap.size <= b) (hl : ∀ b,S' b -> b < w'.heap.size) {g d : Nat} {cs : List V} {cur : Array Value} {T : TypeId}
    (hgn : w.heap.size <= g) (hgS : ¬ S' g) (hcur : w'.heap[g]? = some (.cells cur T (0,0))) (hr : RepL w S ρ M.H cs cur.toList) :
    Ok w' S' ρ (fun k=>if k = d then g else β k) { M with B:=DB M.B d cs } /\ Stp w S ρ β M w' S' ρ M.H:=by
  obtain ⟨hok',hst⟩:=hok.grow hg hS hn hl
  refine ⟨⟨hok'.rows,fun k cs' hk=>?_,hok'.inj,fun k k' h1 h2 e=>?_,fun r k h1 h2 e=>?_,fun k hk hs=>?_,hl⟩,hst⟩
  · simp only [Bn] at hk
    by_cases h : k = d
    · rw [AaN h] at hk
      cases hk
      rw [AaN h]
      exact ⟨cur,T,hcur,hst.list hr⟩
    · rw [AaL h] at hk
      rw [AaL h]
      exact hok'.boxes k cs' hk
  · simp only [Bn] at h1 h2
    by_cases c1 : k = d <;> by_cases c2 : k' = d
    · omega
    · rw [AaN c1,AaL c2] at e
      rw [AaL c2] at h2
      have:=hok.blt h2
      omega
    · rw [AaL c1,AaN c2] at e
      rw [AaL c1] at h1
      have:=hok.blt h1
      omega
    · rw [AaL c1,AaL c2] at e
      rw [AaL c1] at h1
      rw [AaL c2] at h2
      exact hok.bij k k' h1 h2 e
  · simp only [Bn] at h2
    by_cases c : k = d
    · rw [AaN c] at e
      have:=hok.rlt h1
      omega
    · rw [AaL c] at e h2
      exact hok.rb r k h1 h2 e
  · simp only [Bn] at hk
    by_cases c : k = d
    · rw [AaN c] at hs; exact hgS hs
    · rw [AaL c] at hk hs
      exact hok'.bns k hk hs
theorem Ok.setBox (hok : Ok w S ρ β M) {d : Nat} (hd : (getB M.B d).isSome) (hg : Gw w w' (some (β d))) {cs : List V} {cur : Array Value} {T : TypeId}
    (hcur : w'.heap[β d]? = some (.cells cur T (0,0))) (hr : RepL w S ρ M.H cs cur.toList) :
    Ok w' S ρ β { M with B:=DB M.B d cs } /\ Stp w S ρ β M w' S ρ M.H:=by
  have old : ∀ b,b < w.heap.size -> b ≠ β d -> w'.heap[b]? = w.heap[b]?:=fun b hb hne=>hg.block b hb (by simpa using hne)
  have hst : ∀ b,S b -> w'.heap[b]? = w.heap[b]?:=fun b hb=>old b (hok.lt b hb) (fun e=>hok.bns d hd (e ▸ hb))
  have hrw : ∀ r,r < M.H.length -> w'.heap[ρ r]? = w.heap[ρ r]?:=fun r hr=>old _ (hok.rlt hr) (hok.rb r d hr hd)
  have hto : RowsTo w S ρ M.H w' S ρ M.H:=by
    refine ⟨hst,fun _ h=>h,fun r ty esz es base fz hrow=>?_,fun r es fz hrow=>⟨rfl,es,fz,hrow⟩,fun r st pd E ps ca cb hrow=>⟨rfl,st,pd,hrow⟩⟩
    have hlt:=(AaI.1 hrow).1
    exact ⟨es,base,fz,hrow,AaQ _,AaQ _,fun b ver _ _ hA=>hA.same hst (fun _ h=>h) (hrw r hlt),fun _=>⟨rfl,fun cur mk h=>⟨cur,mk,by rw [hrw r hlt]; exact h,rfl⟩⟩⟩
  refine ⟨⟨fun r row hrow=>?_,fun k cs' hk=>?_,hok.inj,fun k k' h1 h2 e=>?_,fun r k h1 h2 e=>?_,fun k hk hs=>?_,fun b hb=>AbY (hok.lt b hb) hg.size⟩,
    hto.stp (M:=M) (M':=M) hg (fun b e=>.inr ⟨d,hd,by simpa using e.symm⟩) (fun b hb=>.inl hb) fun r h=>.inl ⟨r,h,rfl⟩⟩
  · have hlt:=(AaI.1 hrow).1
    exact (hok.rows r row hrow).same hto rfl (hrw r hlt) id
  · simp only [Bn] at hk
    by_cases h : k = d
    · subst h
      rw [AaN rfl] at hk
      cases hk
      exact ⟨cur,T,hcur,hr.mono hto⟩
    · rw [AaL h] at hk
      obtain ⟨cur',T',hh,hr'⟩:=hok.boxes k cs' hk
      have hkl:=hok.blt (d:=k) (by simp [hk])
      exact ⟨cur',T',by rw [old _ hkl (fun e=>h (hok.bij k d (by simp [hk]) hd e))]; exact hh,hr'.mono hto⟩
  · simp only [Bn] at h1 h2
    refine hok.bij k k' ?_ ?_ e
    · by_cases c : k = d
      · subst c; exact hd
      · rwa [AaL c] at h1
    · by_cases c : k' = d
      · subst c; exact hd
      · rwa [AaL c] at h2
  · simp only [Bn] at h2
    refine hok.rb r k h1 ?_ e
    by_cases c : k = d
    · subst c; exact hd
    · rwa [AaL c] at h2
  · simp only [Bn] at hk
    refine hok.bns k ?_ hs
    by_cases c : k = d
    · subst c; exact hd
    · rwa [AaL c] at hk
theorem Ok.setRow (hok : Ok w S ρ β M) {r g : Nat} {row row' : Row} (hrow : M.H[r]? = some row) (hg : Gw w w' (some (ρ r)))
    (hgg : g = ρ r \/ w.heap.size <= g)
    (hS : ∀ b,S b -> S' b) (hn : ∀ b,S' b -> S b \/ b = ρ r) (hSw : ∀ b,S b -> w'.heap[b]? = w.heap[b]?)
    (hcs : ∀ ty esz es base fz,row = .cs ty esz es base fz -> ∃ es' base' fz',row' = .cs ty esz es' base' fz' /\ es.length <= es'.length /\ base <= base' /\
      (∀ b ver,ver <= es.length -> base' <= ver -> At w S (ρ r) b ver esz es.length -> At w' S' g b ver esz es'.length) /\
      (es'.length = es.length -> g = ρ r /\ ∀ cur mk,w.heap[ρ r]? = some (.cells cur ty mk) -> ∃ cur' mk',w'.heap[ρ r]? = some (.cells cur' ty mk') /\ cur'.size = cur.size))
    (hmp : ∀ es fz,row = .mp es fz -> g = ρ r /\ ∃ es' fz',row' = .mp es' fz')
    (hro : RowsTo w S ρ M.H w' S' (fun k=>if k = r then g else ρ k) (M.H.set r row') -> RowOk w' S' (fun k=>if k = r then g else ρ k) (M.H.set r row') r row')
    (hlp : ∀ st pd E ps ca cb,row = .lp st pd E ps ca cb -> g = ρ r /\ ∃ st' pd',row' = .lp st' pd' E ps ca cb:=by intro _ _ _ _ _ _ h; cases h) :
    Ok w' S' (fun k=>if k = r then g else ρ k) β { M with H:=M.H.set r row' } /\ Stp w S ρ β M w' S' (fun k=>if k = r then g else ρ k) (M.H.set r row'):=by
  have hrl:=(AaI.1 hrow).1
  have old : ∀ b,b < w.heap.size -> b ≠ ρ r -> w'.heap[b]? = w.heap[b]?:=fun b hb hne=>hg.block b hb (by simpa using hne)
  have hrw : ∀ k,k < M.H.length -> k ≠ r -> w'.heap[ρ k]? = w.heap[ρ k]?:=fun k hk hne=>old _ (hok.rlt hk) (fun e=>hne (hok.inj k r hk hrl e))
  have hto : RowsTo w S ρ M.H w' S' (fun k=>if k = r then g else ρ k) (M.H.set r row'):=by
    refine ⟨hSw,hS,fun k ty esz es base fz hk=>?_,fun k es fz hk=>?_,fun k st pd E ps ca cb hk=>?_⟩
    · have hlt:=(AaI.1 hk).1
      by_cases c : k = r
      · subst c
        rw [hrow] at hk
        obtain ⟨es',base',fz',h1,h2,h3,h4,h5⟩:=hcs ty esz es base fz (Option.some.inj hk)
        refine ⟨es',base',fz',by simp [hrl,h1],h2,h3,fun b ver a1 a2 a3=>by rw [AaN rfl]; exact h4 b ver a1 a2 a3,fun e=>by rw [AaN rfl]; exact h5 e⟩
      · refine ⟨es,base,fz,by rw [AbM (Ne.symm c)]; exact hk,AaQ _,AaQ _,fun b ver _ _ hA=>?_,fun _=>?_⟩
        · rw [AaL c]; exact hA.same hSw hS (hrw k hlt c)
        · rw [AaL c]; exact ⟨rfl,fun cur mk h=>⟨cur,mk,by rw [hrw k hlt c]; exact h,rfl⟩⟩
    · by_cases c : k = r
      · subst c
        rw [hrow] at hk
        obtain ⟨h1,es',fz',h2⟩:=hmp es fz (Option.some.inj hk)
        exact ⟨by rw [AaN rfl]; exact h1,es',fz',by simp [hrl,h2]⟩
      · exact ⟨by rw [AaL c],es,fz,by rw [AbM (Ne.symm c)]; exact hk⟩
    · by_cases c : k = r
      · subst c
        rw [hrow] at hk
        obtain ⟨h1,st',pd',h2⟩:=hlp st pd E ps ca cb (Option.some.inj hk)
        exact ⟨by rw [AaN rfl]; exact h1,st',pd',by simp [hrl,h2]⟩
      · exact ⟨by rw [AaL c],st,pd,by rw [AbM (Ne.symm c)]; exact hk⟩
  have hR:=hro hto
  have hgl : g < w'.heap.size:=by
    have hh : ∃ o,w'.heap[g]? = some o:=by
      cases row' with
      | cs ty esz es base fz=>obtain ⟨_,_,_,_,_,cur,cap,mk,hh,_⟩:=hR; exact ⟨_,by simpa using hh⟩
      | mp es fz=>obtain ⟨_,_,ents,clock,hh,_⟩:=hR; exact ⟨_,by simpa using hh⟩
      | lp st pd E ps ca cb=>obtain ⟨_,rec,_,_,hh,_⟩:=hR; exact ⟨_,by simpa using hh⟩
    obtain ⟨o,hh⟩:=hh
    exact (Abk.1 hh).1
  have hne : ∀ k,k < M.H.length -> k ≠ r -> g ≠ ρ k:=fun k hk hkr e=>by
    rcases hgg with h | h
    · exact hkr (hok.inj k r hk hrl (by omega))
    · have:=hok.rlt hk; omega
  refine ⟨⟨fun k row'' hk=>?_,fun d cs hd=>?_,fun k k' h1 h2 e=>?_,hok.bij,fun k d h1 h2 e=>?_,fun d hd hs=>?_,fun b hb=>?_⟩,
    hto.stp (M:=M) (M':={ M with H:=M.H.set r row' }) hg (fun b e=>.inl ⟨r,hrl,by simpa using e.symm⟩) (fun b hb=>(hn b hb).imp id fun e=>.inr ⟨r,hrl,e⟩) fun k h=>(by
      simp only [List.length_set] at h
      by_cases c : k = r
      · rcases hgg with e | e
        · exact .inl ⟨r,hrl,by rw [AaN c]; exact e⟩
        · exact .inr (by rw [AaN c]; exact e)
      · exact .inl ⟨k,h,AaL c⟩)⟩
  · by_cases c : k = r
    · subst c
      simp [hrl] at hk
      subst hk
      exact hR
    · simp only [AbM (Ne.symm c)] at hk
      have hlt:=(AaI.1 hk).1
      exact (hok.rows k row'' hk).same hto (AaL c) (hrw k hlt c) (fun hs=>(hn _ hs).resolve_right (fun e=>c (hok.inj k r hlt hrl e)))
  · have hlt:=hok.blt (d:=d) (by simpa using (by rw [hd]; rfl : (getB M.B d).isSome = true))
    obtain ⟨cur,T,hh,hr⟩:=hok.boxes d cs hd
    refine ⟨cur,T,by rw [old _ hlt (fun e=>hok.rb r d hrl (by simpa using (by rw [hd]; rfl : (getB M.B d).isSome = true)) e.symm)]; exact hh,hr.mono hto⟩
  · simp only [List.length_set] at h1 h2
    by_cases c1 : k = r <;> by_cases c2 : k' = r
    · omega
    · rw [AaN c1,AaL c2] at e
      exact absurd e (hne k' h2 c2)
    · rw [AaL c1,AaN c2] at e
      exact absurd e.symm (hne k h1 c1)
    · rw [AaL c1,AaL c2] at e
      exact hok.inj k k' h1 h2 e
  · simp only [List.length_set] at h1
    by_cases c : k = r
    · rw [AaN c] at e
      rcases hgg with h | h
      · exact hok.rb r d hrl h2 (by omega)
      · have:=hok.blt h2; omega
    · rw [AaL c] at e
      exact hok.rb k d h1 h2 e
  · rcases hn _ hs with h | h
    · exact hok.bns d hd h
    · exact hok.rb r d hrl hd h.symm
  · rcases hn _ hb with h | h
    · exact AbY (hok.lt b h) hg.size
    · rw [h]; exact AbY (hok.rlt hrl) hg.size
end
end Go.Mx
/- From the loaded code to compact code: a checked translation. The hints (which slots are local to a region, which boxes are private, how slice literals are made, what a loop drops) are free: whatever they say, what is accepted is sound. -/
/- The machine's tests and numbers against the model's: comparisons, wraps, bits, strings. -/
namespace Go.Mx
theorem Iv (lo hi : Nat) (n : Int) : inR lo hi n = true ↔ -(lo : Int) <= n /\ n <= hi:=by
  cases n with
  | ofNat m=>simp only [inR,Abv,Int.ofNat_eq_natCast]; omega
  | negSucc m=>simp only [inR,AbU]; omega
theorem UX (k : IntKind) (n : Int) (h : okK k n = true) : k.wrap n = n:=by
  cases k <;> simp only [okK,Iv] at h <;> simp [IntKind.wrap,IntKind.bits,IntKind.signed] <;> omega
theorem Ga (k : IntKind) (n : Int) : wr k n = k.wrap n:=by
  unfold wr
  cases h : okK k n with
  | true=>exact (UX k n h).symm
  | false=>rfl
theorem EY (a b : Int) : ltI a b = decide (a < b):=by
  rw [Abu]
  cases a <;> cases b <;> simp [ltI,AbU] <;> omega
theorem Ff (a b : Int) : eqI a b = (a == b):=by
  rw [Abu]
  cases a <;> cases b <;> simp [eqI,AaV] <;> omega
theorem Mp (a b : Int) : leI a b = decide (a <= b):=by
  rw [leI,EY,Abu]
  simp
theorem Uv (a b : IntKind) : eqK a b = true ↔ a = b:=by cases a <;> cases b <;> simp [eqK]
theorem MM (k : IntKind) : Ka k = k.bits:=by cases k <;> rfl
theorem PO (k : IntKind) : KG k = 2 ^ k.bits:=by cases k <;> rfl
theorem EA (k : IntKind) (n : Int) : Fu k n = (BitVec.ofInt k.bits n).toNat:=by
  rw [BitVec.toNat_ofInt]
  have hm : (KG k : Int) = ((2 ^ k.bits : Nat) : Int):=by rw [PO]
  have hp : 0 < KG k:=by cases k <;> decide
  rw [<- hm]
  cases n with
  | ofNat m =>
    simp only [Fu]
    show _ = ((m : Int) % (KG k : Int)).toNat
    rw [<- Int.natCast_emod,Int.toNat_natCast]
  | negSucc m =>
    simp only [Fu]
    have h1 : Int.negSucc m % (KG k : Int) = (KG k : Int) - 1 - ((m % KG k : Nat) : Int):=by
      rw [Int.negSucc_emod m (by omega)]
      push_cast
      omega
    rw [h1]
    have h2 : m % KG k < KG k:=Nat.mod_lt _ hp
    omega
theorem HV (a b : List Nat) : eqL a b = decide (a = b):=by
  induction a generalizing b with
  | nil=>cases b <;> simp [eqL]
  | cons x a ih =>
    cases b with
    | nil=>simp [eqL]
    | cons y b =>
      simp only [eqL,ih]
      rw [Abu]
      simp [AaV]
theorem BV {a b : List UInt8} : a.map UInt8.toNat = b.map UInt8.toNat ↔ a = b:=by
  constructor
  · intro h
    exact (List.map_inj_right (fun _ _ h=>UInt8.toNat_inj.1 h)).1 h
  · rintro rfl; rfl
theorem Mo (a b : List UInt8) : ltL (a.map UInt8.toNat) (b.map UInt8.toNat) = Op.bytesLess a b:=by
  induction a generalizing b with
  | nil=>cases b <;> simp [ltL,Op.bytesLess]
  | cons x a ih =>
    cases b with
    | nil=>simp [ltL,Op.bytesLess]
    | cons y b =>
      simp only [Abr,ltL,Op.bytesLess,ih]
      have h1 : Nat.blt x.toNat y.toNat = decide (x < y):=by
        rw [Abu]; simp [AbU,UInt8.lt_iff_toNat_lt]
      have h2 : Nat.beq x.toNat y.toNat = (x == y):=by
        rw [Abu]; simp [AaV,UInt8.toNat_inj]
      rw [h1,h2]
theorem KR {P : Program} (w : World) (t : TypeId) (k : IntKind) (x y : Int) (op : BinOp) (v : V) (hs : op ≠ .shl) (hs' : op ≠ .shr) (h : arX op k x y = some v) :
    ∃ c,(binOp op t (.int k x) (.int k y)).run P w = .ok c w /\ ∃ i,v = .m i /\ RepI w (fun _=>False) i c:=by
  cases op <;> simp only [arX,vi,vb,Ah,AaG,reduceCtorEq] at h <;> first | contradiction | skip
  case add=>exact ⟨.int k (k.wrap (x + y)),by simp [binOp,Op.intArith],_,h.symm,by rw [Ga]; exact .i _ _⟩
  case sub=>exact ⟨.int k (k.wrap (x - y)),by simp [binOp,Op.intArith],_,h.symm,by rw [Ga]; exact .i _ _⟩
  case mul=>exact ⟨.int k (k.wrap (x * y)),by simp [binOp,Op.intArith],_,h.symm,by rw [Ga]; exact .i _ _⟩
  case quo =>
    have hy : y ≠ 0:=by have:=h.1; rw [Ff] at this; simpa using this
    exact ⟨.int k (k.wrap (x.tdiv y)),by simp [binOp,Op.intDiv,hy],_,h.2.symm,by rw [Ga]; exact .i _ _⟩
  case rem =>
    have hy : y ≠ 0:=by have:=h.1; rw [Ff] at this; simpa using this
    exact ⟨.int k (x.tmod y),by simp [binOp,Op.intDiv,hy],_,h.2.symm,.i _ _⟩
  case eql=>exact ⟨.bool (x == y),by simp [binOp,Op.intCmp],_,h.symm,by rw [Ff]; exact .b _⟩
  case neq=>exact ⟨.bool (x != y),by simp [binOp,Op.intCmp],_,h.symm,by rw [Ff]; exact .b _⟩
  case lss=>exact ⟨.bool (x < y),by simp [binOp,Op.intCmp],_,h.symm,by rw [EY]; exact .b _⟩
  case leq=>exact ⟨.bool (x <= y),by simp [binOp,Op.intCmp],_,h.symm,by rw [Mp]; exact .b _⟩
  case gtr=>exact ⟨.bool (x > y),by simp [binOp,Op.intCmp],_,h.symm,by rw [EY]; exact .b _⟩
  case geq=>exact ⟨.bool (x >= y),by simp [binOp,Op.intCmp],_,h.symm,by rw [Mp]; exact .b _⟩
  case and=>exact ⟨_,by simp only [binOp,ne_eq,not_true_eq_false,if_false]; rfl,_,h.symm,by rw [Ga,EA,EA]; exact .i _ _⟩
  case or=>exact ⟨_,by simp only [binOp,ne_eq,not_true_eq_false,if_false]; rfl,_,h.symm,by rw [Ga,EA,EA]; exact .i _ _⟩
  case xor=>exact ⟨_,by simp only [binOp,ne_eq,not_true_eq_false,if_false]; rfl,_,h.symm,by rw [Ga,EA,EA]; exact .i _ _⟩
theorem Jx (n : Nat) : Int.ofNat (Nat.pow 2 n) = (2 : Int) ^ n:=by
  show ((2 ^ n : Nat) : Int) = _
  push_cast
  rfl
theorem ET {P : Program} (w : World) (t : TypeId) (k k' : IntKind) (x : Int) (y : Nat) (op : BinOp) (v : V) (hop : op = .shl \/ op = .shr) (h : shX op k x y = some v) :
    ∃ c,(binOp op t (.int k x) (.int k' y)).run P w = .ok c w /\ ∃ i,v = .m i /\ RepI w (fun _=>False) i c:=by
  have h0 : ¬ (y : Int) < 0:=by omega
  rcases hop with rfl | rfl
  · simp only [shX,vi,AaG] at h
    refine ⟨.int k (k.wrap (x * 2 ^ min y k.bits)),by simp [binOp,Op.shift,h0],_,h.symm,?_⟩
    rw [Ga,MM,Jx]; exact .i _ _
  · simp only [shX,vi,AaG] at h
    refine ⟨.int k (x.fdiv (2 ^ min y k.bits)),by simp [binOp,Op.shift,h0],_,h.symm,?_⟩
    rw [MM,Jx]; exact .i _ _
theorem Lk (a b : ByteArray) : (a ++ b).data = a.data ++ b.data:=by simp
theorem KQ {P : Program} (w : World) (t : TypeId) (x y : ByteArray) (op : BinOp) (v : V) (h : stX op (x.data.toList.map UInt8.toNat) (y.data.toList.map UInt8.toNat) = some v) :
    ∃ c,(binOp op t (.string x) (.string y)).run P w = .ok c w /\ ∃ i,v = .m i /\ RepI w (fun _=>False) i c:=by
  have ht : ∀ z : ByteArray,z.toList = z.data.toList:=ByteArray.toList_eq
  have he : (x.toList == y.toList) = decide (x.data.toList = y.data.toList):=by rw [ht,ht,Abu]; simp
  cases op <;> simp only [stX,vb,Ah,AaG,reduceCtorEq] at h <;> first | contradiction | skip
  case add =>
    have hl : ¬ ((x.size + y.size : Nat) : Int) > IntKind.i64.max:=by
      have:=h.1
      simp only [Abv,Abe,Abp] at this
      have hx : x.size = x.data.size:=rfl
      have hy : y.size = y.data.size:=rfl
      simp only [IntKind.max_i64]
      omega
    refine ⟨.string (x ++ y),by simp only [binOp,Op.stringOp,AaL hl]; rfl,_,h.2.symm,?_⟩
    refine .s _ _ ?_
    rw [Lk]; simp
  case eql=>exact ⟨.bool (x.toList == y.toList),by simp [binOp,Op.stringOp],_,h.symm,by rw [HV,he]; simp only [BV]; exact .b _⟩
  case neq=>exact ⟨.bool (!(x.toList == y.toList)),by simp [binOp,Op.stringOp],_,h.symm,by rw [HV,he]; simp only [BV]; exact .b _⟩
  case lss=>exact ⟨.bool (Op.bytesLess x.toList y.toList),by simp [binOp,Op.stringOp],_,h.symm,by rw [Mo,ht,ht]; exact .b _⟩
  case leq=>exact ⟨.bool (Op.bytesLess x.toList y.toList || x.toList == y.toList),by simp [binOp,Op.stringOp],_,h.symm,by rw [Mo,HV,he,ht,ht]; simp only [BV]; exact .b _⟩
  case gtr=>exact ⟨.bool (!(Op.bytesLess x.toList y.toList || x.toList == y.toList)),by simp [binOp,Op.stringOp],_,h.symm,by rw [Mo,HV,he,ht,ht]; simp only [BV]; exact .b _⟩
  case geq=>exact ⟨.bool (!Op.bytesLess x.toList y.toList),by simp [binOp,Op.stringOp],_,h.symm,by rw [Mo,ht,ht]; exact .b _⟩
theorem Yf {P : Program} {S : Nat -> Prop} (w : World) (op : UnOp) (x : V) (c : Value) (v : V) (i : I) (hx : x = .m i) (hr : RepI w S i c) (h : unX op x = some v) :
    ∃ c',(Op.unary op c).run P w = .ok c' w /\ ∃ j,v = .m j /\ RepI w (fun _=>False) j c':=by
  subst hx
  cases hr with
  | b x =>
    cases op <;> simp only [unX,vb,AaG,reduceCtorEq] at h
    exact ⟨.bool (!x),by simp [Op.unary],_,h.symm,.b _⟩
  | i k n =>
    cases op <;> simp only [unX,vi,AaG,reduceCtorEq] at h
    case neg=>exact ⟨.int k (k.wrap (0 - n)),by simp [Op.unary,Op.intArith],_,h.symm,by rw [Ga]; exact .i _ _⟩
    case xor =>
      refine ⟨.int k (bits .xor k (if k.signed then -1 else k.max) n),rfl,_,h.symm,?_⟩
      rw [Ga]
      have : bits .xor k (if k.signed then -1 else k.max) n = k.wrap (Int.ofNat (KG k - 1 - Fu k n)):=by
        have hall : BitVec.ofInt k.bits (if k.signed then -1 else k.max) = BitVec.allOnes k.bits:=by cases k <;> decide
        show k.wrap ((BitVec.ofInt k.bits (if k.signed then -1 else k.max) ^^^ BitVec.ofInt k.bits n).toNat : Int) = _
        rw [hall,BitVec.allOnes_xor,BitVec.toNat_not,EA,PO]
        rfl
      rw [this]
      exact .i _ _
  | _=>cases op <;> simp [unX] at h
end Go.Mx
/- The operations of the machine against those of the model, first part: what an operation's outcome is; operations that touch no memory. -/
namespace Go.Mx
def RepX (w : World) (S : Nat -> Prop) (ρ β : Nat -> Nat) (H : Hp) (v : V) (c : Value) : Prop:=match v with
  | .fa d off=>c = .pointer (some ⟨β d,off,none⟩)
  | v=>RepV w S ρ H v c
inductive All2 {α β : Type} (R : α -> β -> Prop) : List α -> List β -> Prop where
  | nil : All2 R [] []
  | cons {a : α} {b : β} {l : List α} {m : List β} (h : R a b) (t : All2 R l m) : All2 R (a :: l) (b :: m)
def dof : O -> Option Nat
  | .l (.alp d _)=>some d
  | .l (.bxp d _)=>some d
  | _=>none
def Outc (w : World) (S : Nat -> Prop) (ρ β : Nat -> Nat) (M : Mem) (o : O) (v : V) (M' : Mem) (r : Result Next) : Prop :=
  ∃ nx c w' S' ρ' β',r = .ok nx w' /\ (nx = .value c \/ (nx = .skip /\ c = undef)) /\ Ok w' S' ρ' β' M' /\ Stp w S ρ β M w' S' ρ' M'.H /\ RepX w' S' ρ' β' M'.H v c /\ (∀ d,dof o ≠ some d -> β' d = β d) /\ ∀ d,(getB M'.B d).isSome -> (∃ q,(getB M.B q).isSome /\ β' d = β q) \/ w.heap.size <= β' d
section
variable {P : Program} {w : World} {S : Nat -> Prop} {ρ β : Nat -> Nat} {M : Mem} {H : Hp}
theorem RepX.ofV {v : V} {c : Value} (h : RepV w S ρ H v c) : RepX w S ρ β H v c:=by
  cases v <;> first | exact h | cases h
theorem RepX.toV {v : V} {c : Value} (hv : AE v = true) (h : RepX w S ρ β H v c) : RepV w S ρ H v c:=by
  cases v <;> first | exact h | simp [AE] at hv
theorem RepX.cells {v : V} {c : Value} {l : List V} (h : RepX w S ρ β H v c) (hl : Av v = some l) : RepL w S ρ H l c.cells.toList:=by
  cases v <;> first | exact RepV.cells h hl | simp [Av] at hl
theorem RepI.any {i : I} {c : Value} (h : RepI w (fun _=>False) i c) : RepI w S i c:=h.mono (fun _ h=>h.elim) (fun _ h=>h.elim)
theorem Outc.val {o : O} {v : V} {c : Value} {r : Result Next} (hok : Ok w S ρ β M) (h : RepX w S ρ β M.H v c) (hr : r = .ok (.value c) w) : Outc w S ρ β M o v M r :=
  ⟨_,c,w,S,ρ,β,hr,.inl rfl,hok,Stp.refl _ _ _ _ _,h,fun _ _=>rfl,fun d hd=>.inl ⟨d,hd,rfl⟩⟩
theorem All2.inv1 {α β : Type} {R : α -> β -> Prop} {a : α} {m : List β} (h : All2 R [a] m) : ∃ b,m = [b] /\ R a b:=by
  cases h with | cons h t=>cases t; exact ⟨_,rfl,h⟩
theorem All2.inv2 {α β : Type} {R : α -> β -> Prop} {a a' : α} {m : List β} (h : All2 R [a,a'] m) : ∃ b b',m = [b,b'] /\ R a b /\ R a' b':=by
  cases h with | cons h t=>obtain ⟨b',rfl,h'⟩:=t.inv1; exact ⟨_,_,rfl,h,h'⟩
theorem All2.inv3 {α β : Type} {R : α -> β -> Prop} {a a' a'' : α} {m : List β} (h : All2 R [a,a',a''] m) : ∃ b b' b'',m = [b,b',b''] /\ R a b /\ R a' b' /\ R a'' b'':=by
  cases h with | cons h t=>obtain ⟨b',b'',rfl,h',h''⟩:=t.inv2; exact ⟨_,_,_,rfl,h,h',h''⟩
theorem All2.length {α β : Type} {R : α -> β -> Prop} {l : List α} {m : List β} (h : All2 R l m) : l.length = m.length:=by
  induction h with | nil=>rfl | cons _ _ ih=>simp [ih]
theorem All2.toL {vs : List V} {cs : List Value} (hn : vs.all AE = true) (h : All2 (RepX w S ρ β H) vs cs) : RepL w S ρ H vs cs:=by
  induction h with
  | nil=>exact .nil
  | cons h t ih=>simp only [List.all_cons,AaJ] at hn; exact .cons (h.toV hn.1) (ih hn.2)
theorem Pd {c : Value} {v : V} (h : toV c = some v) : RepV w S ρ H v c:=by
  unfold toV at h
  split at h <;> first | contradiction | (simp only [AaG] at h; subst h)
  · exact .m (.b _)
  · exact .m (.i _ _)
  · exact .m (.s _ _ rfl)
  · exact .m .nlp
  · exact .m .nlm
  · exact .m .nlf
  · exact .m .nli
  · exact .m .nls
theorem LH : ∀ {cs : List Value} {vs : List V},Ai toV cs = some vs -> RepL w S ρ H vs cs
  | [],vs,h=>by simp [Ai] at h; subst h; exact .nil
  | c :: cs,vs,h=>by
    simp only [Ai,AaF,AaG] at h
    obtain ⟨x,hx,l,hl,rfl⟩:=h
    exact .cons (Pd hx) (LH hl)
theorem Cm {t : TypeId} {zs : List V} (h : CM P t = some zs) : ∃ i z,P.info? t = some i /\ i.zero = some z /\ z.cells.size = i.size /\ zs.length = i.size /\ ∀ (w : World) S ρ H,RepL w S ρ H zs z.cells.toList:=by
  simp only [CM,AaF,Ah,AaV] at h
  obtain ⟨i,hi,z,hz,hs,hm⟩:=h
  have hr:=fun (w : World) S ρ H=>LH (w:=w) (S:=S) (ρ:=ρ) (H:=H) hm
  refine ⟨i,z,hi,hz,hs,?_,hr⟩
  have:=(hr default (fun _=>False) id []).1
  simp at this
  omega
theorem AB {t : TypeId} {s : Nat} : Bi P t = some s ↔ ∃ i,P.info? t = some i /\ i.size = s:=by simp [Bi,AaF]
theorem Hc {t : TypeId} {s : Nat} : HW P t = some s ↔ ∃ i,P.info? t = some i /\ i.bytes = s:=by simp [HW,AaF]
theorem AA {t : TypeId} {i : TypeInfo} (hi : P.info? t = some i) (w : World) : (sizeOf t).run P w = .ok i.size w:=by simp [sizeOf,typeInfo,hi]
theorem Jo {t : TypeId} {i : TypeInfo} (hi : P.info? t = some i) (w : World) : (typeInfo t).run P w = .ok i w:=by simp [typeInfo,hi]
theorem AZ {t : TypeId} {i : TypeInfo} {z : Value} (hi : P.info? t = some i) (hz : i.zero = some z) (w : World) : (zeroValue t).run P w = .ok z w:=by simp [zeroValue,typeInfo,hi,hz]
theorem CY {t : TypeId} {ag : Bool} (h : BZ P t = some ag) (w : World) : (isAgg t).run P w = .ok ag w:=by
  simp only [BZ,AaF] at h
  obtain ⟨d,hd,h⟩:=h
  simp only [isAgg,Sem.run_bind,run_underlying hd,Result.andThen_ok]
  cases d <;> simp at h <;> subst h <;> rfl
theorem Pf {n : Nat} {xs l : List V} {cs : List Value} (h : RepL w S ρ H xs cs) (ht : CN n xs = some l) : RepL w S ρ H l (cs.take n) /\ (cs.take n).length = n:=by
  simp only [CN,Ah,AaV,AaG] at ht
  obtain ⟨hl,rfl⟩:=ht
  have h2:=h.take n
  exact ⟨h2,by have:=h2.1; omega⟩
theorem EQ {ag : Bool} {l : List V} {v : V} {cs : Array Value} (h : RepL w S ρ H l cs.toList) (hv : CD ag l = some v) :
    (ag = true /\ RepV w S ρ H v (.agg cs)) \/ (ag = false /\ ∃ c,cs = #[c] /\ RepV w S ρ H v c):=by
  cases ag with
  | true=>simp only [CD,AaG] at hv; subst hv; exact .inl ⟨rfl,h.mkAg⟩
  | false =>
    simp only [CD] at hv
    split at hv
    · rename_i x
      simp only [AaG] at hv
      subst hv
      obtain ⟨c,r,hc,hx,hr⟩:=h.inv_cons
      have:=hr.inv_nil
      subst this
      refine .inr ⟨rfl,c,?_,hx⟩
      obtain ⟨l⟩:=cs
      simp at hc
      simp [hc]
    · cases hv
theorem Sx {t : TypeId} {ag : Bool} {i : TypeInfo} (hag : BZ P t = some ag) (hi : P.info? t = some i) (hs : ag = true \/ i.size = 1) {cs : Array Value} {off : Nat} {l : List V} {xs : List V} {v : V}
    (h : RepL w S ρ H xs cs.toList) (ht : CN i.size (xs.drop off) = some l) (hv : CD ag l = some v) :
    ∃ c,(part t cs off).run P w = .ok c w /\ RepV w S ρ H v c:=by
  obtain ⟨h1,h2⟩:=Pf (h.drop off) ht
  have h3 : RepL w S ρ H l (cs.extract off (off + i.size)).toList:=by
    have : (cs.extract off (off + i.size)).toList = (cs.toList.drop off).take i.size:=by simp [List.take_drop]
    rw [this]; exact h1
  rcases EQ h3 hv with ⟨rfl,h4⟩ | ⟨rfl,c,hc,h4⟩
  · exact ⟨_,by simp [part,CY hag,AA hi],h4⟩
  · refine ⟨c,?_,h4⟩
    have h1s : i.size = 1:=by rcases hs with h | h; cases h; exact h
    have hget : cs[off]? = some c:=by
      have h6 : (cs.extract off (off + i.size))[0]? = some c:=by rw [hc]; rfl
      rw [h1s] at h6
      exact (by simpa [Array.getElem?_extract] using h6 : _ /\ _).2
    simp [part,CY hag,hget]
end
end Go.Mx
/- Operations that touch no memory: each against the model's. -/
namespace Go.Mx
section
variable {P : Program} {w : World} {S : Nat -> Prop} {ρ β : Nat -> Nat} {M : Mem} {H : Hp} {o : Oper} {a : Act} {hi : Hint} {vs : List V} {v : V}
theorem BY {k : IntKind} {n : Int} {c : Value} (h : RepV w S ρ H (.m (.i k n)) c) : c = .int k n:=by have:=h.imm; cases this; rfl
theorem BH {b : Bool} {c : Value} (h : RepV w S ρ H (.m (.b b)) c) : c = .bool b:=by have:=h.imm; cases this; rfl
theorem Dw {l : List Nat} {c : Value} (h : RepV w S ρ H (.m (.s l)) c) : ∃ s : ByteArray,c = .string s /\ s.data.toList.map UInt8.toNat = l:=by have:=h.imm; cases this; exact ⟨_,rfl,‹_›⟩
theorem Uj {op : OP} {x : Operand} (ho : o.op = .move x \/ o.op = .assign x) (hok : Ok w S ρ β M) (hop : op = .mv) (hv : All2 (RepX w S ρ β M.H) vs [a.eval x]) (he : Ap op vs = some v) :
    Outc w S ρ β M (.p op) v M ((execOp a.eval o).run P w):=by
  subst hop
  cases hv with | cons h t =>
  cases t
  simp only [Ap,AaG] at he
  subst he
  refine .val hok h ?_
  rcases ho with ho | ho <;> simp [execOp,ho]
theorem Sk {c x y : Operand} (ho : o.op = .pick c x y) (hok : Ok w S ρ β M) (hv : All2 (RepX w S ρ β M.H) vs [a.eval c,a.eval x,a.eval y]) (he : Ap .pick vs = some v) :
    Outc w S ρ β M (.p .pick) v M ((execOp a.eval o).run P w):=by
  cases hv with | cons h t =>
  cases t with | cons h1 t =>
  cases t with | cons h2 t =>
  cases t
  simp only [Ap] at he
  split at he
  · simp only [AaG] at he
    subst he
    have hc : a.eval c = .bool true:=BH h
    exact .val hok h1 (by simp [execOp,ho,hc,asBool])
  · simp only [AaG] at he
    subst he
    have hc : a.eval c = .bool false:=BH h
    exact .val hok h2 (by simp [execOp,ho,hc,asBool])
  · cases he
theorem Yd {u : UnOp} {t : TypeId} {x : Operand} (ho : o.op = .unOp u t x) (hok : Ok w S ρ β M) (hv : All2 (RepX w S ρ β M.H) vs [a.eval x]) (he : Ap (.un u) vs = some v) :
    Outc w S ρ β M (.p (.un u)) v M ((execOp a.eval o).run P w):=by
  cases hv with | cons h t =>
  cases t
  rename_i x0
  simp only [Ap] at he
  obtain ⟨i,rfl⟩ : ∃ i,x0 = .m i:=by cases x0 <;> first | exact ⟨_,rfl⟩ | (simp [unX] at he)
  obtain ⟨c',hr,j,rfl,hj⟩:=Yf (P:=P) w u (.m i) _ v i rfl (RepV.imm h) he
  exact .val hok (RepX.ofV (.m hj.any)) (by simp [execOp,ho,hr])
theorem Pk {b : BinOp} {t ty : TypeId} {x y : Operand} (ho : o.op = .binOp b t x y ty) (hok : Ok w S ρ β M) (hv : All2 (RepX w S ρ β M.H) vs [a.eval x,a.eval y]) (he : Ap (.bin b) vs = some v) :
    Outc w S ρ β M (.p (.bin b)) v M ((execOp a.eval o).run P w):=by
  cases hv with | cons h t =>
  cases t with | cons h1 t =>
  cases t
  simp only [Ap] at he
  unfold DH at he
  split at he
  · rename_i k x' k' y'
    have hx:=BY h
    have hy:=BY h1
    have hg : eqGuard b t x y (.int k x') (a.eval y) = pure ():=eqGuard_at_int ..
    split at he
    · simp only [AaF] at he
      obtain ⟨n,hn,he⟩:=he
      have hyn : y' = (n : Int):=by cases y' <;> simp [XF] at hn; subst hn; rfl
      subst hyn
      obtain ⟨c,hr,i,rfl,hi'⟩:=ET (P:=P) w t k k' x' n .shl v (.inl rfl) he
      exact .val hok (RepX.ofV (.m hi'.any)) (by rw [hy] at hg; simp [execOp,ho,hx,hy,hg,hr])
    · simp only [AaF] at he
      obtain ⟨n,hn,he⟩:=he
      have hyn : y' = (n : Int):=by cases y' <;> simp [XF] at hn; subst hn; rfl
      subst hyn
      obtain ⟨c,hr,i,rfl,hi'⟩:=ET (P:=P) w t k k' x' n .shr v (.inr rfl) he
      exact .val hok (RepX.ofV (.m hi'.any)) (by rw [hy] at hg; simp [execOp,ho,hx,hy,hg,hr])
    · simp only [Ah,Uv] at he
      obtain ⟨rfl,he⟩:=he
      obtain ⟨c,hr,i,rfl,hi'⟩:=KR (P:=P) w t k x' y' b v (by assumption) (by assumption) he
      exact .val hok (RepX.ofV (.m hi'.any)) (by rw [hy] at hg; simp [execOp,ho,hx,hy,hg,hr])
  · rename_i x' y'
    obtain ⟨sx,hx,rfl⟩:=Dw h
    obtain ⟨sy,hy,rfl⟩:=Dw h1
    have hg : eqGuard b t x y (.string sx) (a.eval y) = pure ():=eqGuard_at_string ..
    obtain ⟨c,hr,i,rfl,hi'⟩:=KQ (P:=P) w t sx sy b v he
    exact .val hok (RepX.ofV (.m hi'.any)) (by rw [hy] at hg; simp [execOp,ho,hx,hy,hg,hr])
  · cases he
theorem Ye {src d : TypeId} {x : Operand} {k : IntKind} (ho : o.op = .convert src d x) (hs : ∃ u,P.underlying src = some u) (hd : P.underlying d = some (.int k)) (hok : Ok w S ρ β M) (hv : All2 (RepX w S ρ β M.H) vs [a.eval x]) (he : Ap (.cv k) vs = some v) :
    Outc w S ρ β M (.p (.cv k)) v M ((execOp a.eval o).run P w):=by
  cases hv with | cons h t =>
  cases t
  simp only [Ap] at he
  split at he
  · rename_i k' n
    have hx:=BY h
    simp only [vi,AaG] at he
    subst he
    obtain ⟨u,hu⟩:=hs
    refine .val hok (RepX.ofV (.m (by rw [Ga]; exact .i k (k.wrap n)))) ?_
    simp [execOp,ho,hx,convert,run_underlying hu,run_underlying hd,Conv.intToInt]
  · cases he
theorem Be (b off n : Nat) : Addr.add ⟨b,off,none⟩ n = ⟨b,off + n,none⟩:=Addr.add_lit b off n
theorem Hx {p : Addr} {f : Field} {i : TypeInfo} (hi' : P.info? f.type = some i) (hs : i.size ≠ 0) : (fieldPlace p f).run P w = .ok (p.add f.offset) w:=by
  simp [fieldPlace,AA hi',hs]
theorem MI {α : Type} {l : List α} {n j : Nat} {x : α} (h : (l.drop n)[j]? = some x) : l[n + j]? = some x:=by rwa [List.getElem?_drop] at h
theorem SJ {cs : List I} {b off n : Nat} (h : RepI w S (.pt cs) (.pointer (some ⟨b,off,none⟩))) : RepI w S (.pt (cs.drop n)) (.pointer (some ⟨b,off + n,none⟩)):=by
  cases h with
  | pt xs b off f hS hc hr=>exact .pt _ b _ (fun j=>f (n + j)) hS (fun j x hj=>by rw [Nat.add_assoc]; exact hc _ _ (MI hj)) (fun j x hj=>hr _ _ (MI hj))
theorem Me {cs : List I} {c : Value} (h : RepV w S ρ H (.m (.pt cs)) c) : ∃ b off,c = .pointer (some ⟨b,off,none⟩) /\ RepI w S (.pt cs) (.pointer (some ⟨b,off,none⟩)):=by
  have h:=h.imm
  cases h with
  | pt _ b off f hS hc hr=>exact ⟨b,off,rfl,.pt cs b off f hS hc hr⟩
def mvA (n : Nat) : V -> Option V
  | .fa d o=>some (.fa d (o + n))
  | .pt r ver ix o=>some (.pt r ver ix (o + n))
  | .m (.pt cs)=>some (.m (.pt (cs.drop n)))
  | _=>none
theorem PN {x : V} {c : Value} {n : Nat} (h : RepX w S ρ β H x c) (he : mvA n x = some v) : ∃ p,c = .pointer (some p) /\ RepX w S ρ β H v (.pointer (some (p.add n))):=by
  unfold mvA at he
  split at he
  · rename_i d off
    simp only [AaG] at he
    subst he
    exact ⟨_,h,by rw [Be]; rfl⟩
  · rename_i r ver ix off
    simp only [AaG] at he
    subst he
    cases RepX.toV rfl h with
    | pt _ _ _ _ ty esz es base fz p hrow h2 hx hb =>
      refine ⟨p,rfl,RepX.ofV (.pt r ver ix (off + n) ty esz es base fz (p.add n) hrow h2 hx fun hbv=>?_)⟩
      obtain ⟨b,rfl,hA⟩:=hb hbv
      exact ⟨b,by rw [Be,Nat.add_assoc],hA⟩
  · rename_i cs
    simp only [AaG] at he
    subst he
    obtain ⟨b,off,rfl,hp⟩:=Me (RepX.toV rfl h)
    exact ⟨_,rfl,RepX.ofV (.m (by rw [Be]; exact SJ hp))⟩
  · cases he
theorem Vm {t : TypeId} {x : Operand} {f : Nat} {fs : Array Field} {fl : Field} {i : TypeInfo} (ho : o.op = .fieldAddr t x f) (hu : P.underlying t = some (.struct fs)) (hf : fs[f]? = some fl) (hi' : P.info? fl.type = some i) (hs : i.size ≠ 0)
    (hok : Ok w S ρ β M) (hv : All2 (RepX w S ρ β M.H) vs [a.eval x]) (he : Ap (.fad fl.offset) vs = some v) : Outc w S ρ β M (.p (.fad fl.offset)) v M ((execOp a.eval o).run P w):=by
  cases hv with | cons h t =>
  cases t
  rename_i x0
  obtain ⟨p,hp,hr⟩:=PN (n:=fl.offset) (v:=v) h he
  refine .val hok hr ?_
  simp [execOp,ho,hp,Instr.fieldAt,run_underlying hu,hf,Instr.sureAddr,Hx hi' hs]
theorem FG {n j : Nat} {i : V} {c : Value} (h : RepX w S ρ β H i c) (he : idx n i = some j) : ∃ k,c = .int k (j : Int) /\ j < n:=by
  unfold idx at he
  split at he
  · simp only [Ah,AaG,AbU] at he
    obtain ⟨h1,rfl⟩:=he
    exact ⟨_,BY (RepX.toV rfl h),h1⟩
  · cases he
theorem HL {es : List (List I)} {c : Value} (h : RepV w S ρ H (.ls es) c) : RepI w S (.sl es) c:=by cases h; assumption
theorem Dt {es : List (List I)} {c : Value} (h : RepI w S (.sl es) c) : ∃ a cap,c = .slice a es.length cap /\ es.length <= cap /\ cap <= maxLen /\ (es ≠ [] -> ∃ b off,a = some ⟨b,off,none⟩ /\ S b):=by
  cases h with
  | sl es a cap esz b off cs hcap hm hsz ha hnn hc hr=>exact ⟨a,cap,rfl,hcap,hm,fun hne=>⟨b,off,(ha hne).1,(ha hne).2⟩⟩
theorem LP {es : List (List I)} {a : Option Addr} {n cap : Nat} (h : RepI w S (.sl es) (.slice a n cap)) {j : Nat} {e : List I} (he : nth es j = some e) : ∃ p : Addr,a = some p /\ RepI w S (.pt e) (.pointer (some (p.add (j * e.length)))):=by
  rw [AK] at he
  cases h with
  | sl es a cap esz b off cs hcap hm hsz ha hnn hc hr =>
    have hne : es ≠ []:=by rintro rfl; simp at he
    obtain ⟨rfl,hS⟩:=ha hne
    refine ⟨_,rfl,?_⟩
    rw [Be,hsz e (AaS he)]
    exact .pt e b _ (fun k=>cs j k) hS (fun k x hk=>by rw [Nat.add_assoc]; exact hc j e k x he hk) (fun k x hk=>hr j e k x he hk)
theorem CR {t : TypeId} {e : TypeId} {i : TypeInfo} (hu : P.underlying t = some (.slice e)) (hi' : P.info? e = some i) {p : Addr} {len cap j : Nat} {k : IntKind} (hj : j < len) :
    (Instr.indexAt t (.slice (some p) len cap) (.int k (j : Int))).run P w = .ok (.pointer (some (p.add (j * i.size)))) w:=by
  simp [Instr.indexAt,asIntOf,run_underlying hu,hj,AA hi']
theorem Vl {t e : TypeId} {x y : Operand} {i : TypeInfo} (ho : o.op = .indexAddr t x y) (hu : P.underlying t = some (.slice e)) (hi' : P.info? e = some i)
    (hok : Ok w S ρ β M) (hv : All2 (RepX w S ρ β M.H) vs [a.eval x,a.eval y]) (he : Ap (.ixa i.size) vs = some v) : Outc w S ρ β M (.p (.ixa i.size)) v M ((execOp a.eval o).run P w):=by
  cases hv with | cons h t =>
  cases t with | cons h1 t =>
  cases t
  simp only [Ap] at he
  split at he
  · rename_i es
    simp only [AaF,Ah,AaG,AaV] at he
    obtain ⟨j,hj,e',he',hl,rfl⟩:=he
    obtain ⟨k,hy,hlt⟩:=FG h1 hj
    have hI:=RepV.imm (RepX.toV rfl h)
    obtain ⟨ad,cap,hc,_,_,_⟩:=Dt hI
    rw [hc] at hI
    obtain ⟨p,rfl,hp⟩:=LP hI he'
    rw [hl] at hp
    refine .val hok (RepX.ofV (.m hp)) ?_
    simp [execOp,ho,hc,hy,CR hu hi' hlt]
  · rename_i es
    simp only [AaF,Ah,AaG,AaV] at he
    obtain ⟨j,hj,e',he',hl,rfl⟩:=he
    obtain ⟨k,hy,hlt⟩:=FG h1 hj
    have hI:=HL (RepX.toV rfl h)
    obtain ⟨ad,cap,hc,_,_,_⟩:=Dt hI
    rw [hc] at hI
    obtain ⟨p,rfl,hp⟩:=LP hI he'
    rw [hl] at hp
    refine .val hok (RepX.ofV (.m hp)) ?_
    simp [execOp,ho,hc,hy,CR hu hi' hlt]
  · rename_i r ver esz' st len lim
    simp only [AaF,Ah,AaG,AaV] at he
    obtain ⟨hes,j,hj,rfl⟩:=he
    obtain ⟨k,hy,hlt⟩:=FG h1 hj
    have h:=RepX.toV rfl h
    generalize hc : a.eval x = c at h
    cases h with
    | sl _ _ _ _ _ _ ty es base fz ad cap hrow h1 h2 h3 h4 h5 hn hb ha =>
      obtain ⟨p,rfl⟩:=hn
      refine .val hok (RepX.ofV (.pt r ver (st + j) 0 ty esz' es base fz (p.add (j * i.size)) hrow h2 (by omega) fun hbv=>?_)) ?_
      · obtain ⟨b,hp,hA⟩:=hb hbv (by omega)
        cases hp
        exact ⟨b,by rw [Be,hes,Abm,Nat.add_zero],hA⟩
      · simp [execOp,ho,hc,hy,CR hu hi' hlt]
  · cases he
end
end Go.Mx
/- Operations that touch no memory, second part: parts of values, lengths, cuts, least and greatest, equality. -/
namespace Go.Mx
section
variable {P : Program} {w : World} {S : Nat -> Prop} {ρ β : Nat -> Nat} {M : Mem} {H : Hp} {o : Oper} {a : Act} {hi : Hint} {vs : List V} {v : V}
theorem Tu {x : V} {c : Value} {l : List V} (h : RepX w S ρ β H x c) (hl : Wt x = some l) : ∃ cs,c = .agg cs /\ RepL w S ρ H l cs.toList:=by
  unfold Wt at hl
  split at hl
  · simp only [AaG] at hl
    subst hl
    exact RepV.ofAgI (RepX.toV rfl h)
  · simp only [AaG] at hl
    subst hl
    exact RepV.agL (RepX.toV rfl h)
  · cases hl
theorem Vj {t e : TypeId} {x y : Operand} {n : Nat} {i : TypeInfo} {ag : Bool} (ho : o.op = .index t x y) (hu : P.underlying t = some (.array n e)) (hi' : P.info? e = some i)
    (hag : BZ P e = some ag) (hs : ag = true \/ i.size = 1) (hok : Ok w S ρ β M) (hv : All2 (RepX w S ρ β M.H) vs [a.eval x,a.eval y]) (he : Ap (.ixv n i.size ag) vs = some v) :
    Outc w S ρ β M (.p (.ixv n i.size ag)) v M ((execOp a.eval o).run P w):=by
  cases hv with | cons h t =>
  cases t with | cons h1 t =>
  cases t
  simp only [Ap,AaF] at he
  obtain ⟨j,hj,cs,hcs,l,hl,hv⟩:=he
  obtain ⟨k,hy,hlt⟩:=FG h1 hj
  obtain ⟨arr,hc,hr⟩:=Tu h hcs
  obtain ⟨c,hrun,hrep⟩:=Sx (P:=P) hag hi' hs hr hl hv
  refine .val hok (RepX.ofV hrep) ?_
  simp [execOp,ho,hc,hy,Instr.index,asIntOf,run_underlying hu,hlt,AA hi',hrun]
theorem Sl {t e : TypeId} {x y : Operand} {n : Nat} {i : TypeInfo} (ho : o.op = .indexAddr t x y) (hu : P.underlying t = some (.array n e)) (hi' : P.info? e = some i)
    (hok : Ok w S ρ β M) (hv : All2 (RepX w S ρ β M.H) vs [a.eval x,a.eval y]) (he : Ap (.ixaA n i.size) vs = some v) : Outc w S ρ β M (.p (.ixaA n i.size)) v M ((execOp a.eval o).run P w):=by
  cases hv with | cons h t =>
  cases t with | cons h1 t =>
  cases t
  simp only [Ap,AaF] at he
  obtain ⟨j,hj,hv⟩:=he
  obtain ⟨k,hy,hlt⟩:=FG h1 hj
  obtain ⟨p,hp,hr⟩:=PN (n:=j * i.size) (v:=v) h hv
  refine .val hok hr ?_
  simp [execOp,ho,hp,hy,Instr.indexAt,asIntOf,run_underlying hu,Instr.sureAddr,hlt,AA hi']
theorem Vk {t : TypeId} {x y : Operand} (ho : o.op = .index t x y) (hu : P.underlying t = some .string) (hok : Ok w S ρ β M) (hv : All2 (RepX w S ρ β M.H) vs [a.eval x,a.eval y]) (he : Ap .ixs vs = some v) :
    Outc w S ρ β M (.p .ixs) v M ((execOp a.eval o).run P w):=by
  cases hv with | cons h t =>
  cases t with | cons h1 t =>
  cases t
  simp only [Ap] at he
  split at he
  · simp only [AaF,vi,AaG] at he
    obtain ⟨j,hj,c,hc,rfl⟩:=he
    obtain ⟨k,hy,hlt⟩:=FG h1 hj
    obtain ⟨s,hx,rfl⟩:=Dw (RepX.toV rfl h)
    rw [AK,Abb] at hc
    have hlt' : j < s.data.size:=by simpa using hlt
    have hsz : j < s.size:=hlt'
    have hcb : c = (s.data[j]'hlt').toNat:=by
      have : s.data.toList[j]? = some (s.data[j]'hlt'):=by simp
      rw [this] at hc
      simpa using hc.symm
    refine .val hok (RepX.ofV (.m (.i .u8 (Int.ofNat c)))) ?_
    have hg : s[j]? = some (s.data[j]'hlt'):=getElem?_pos s j hsz
    simp [execOp,ho,hx,hy,Instr.index,asIntOf,run_underlying hu,hg,hcb]
  · cases he
theorem Vn {x : Operand} {j : Nat} (ho : o.op = .extract x j) (hok : Ok w S ρ β M) (hv : All2 (RepX w S ρ β M.H) vs [a.eval x]) (he : Ap (.ext j) vs = some v) :
    Outc w S ρ β M (.p (.ext j)) v M ((execOp a.eval o).run P w):=by
  cases hv with | cons h t =>
  cases t
  simp only [Ap] at he
  split at he
  · obtain ⟨cs,hc,hr⟩:=RepV.tuL (RepX.toV rfl h)
    rw [AK] at he
    obtain ⟨c,hc',hrep⟩:=hr.2 j v he
    refine .val hok (RepX.ofV hrep) ?_
    have hcj : cs[j]? = some c:=by simpa using hc'
    simp [execOp,ho,hc,Instr.extract,hcj]
  · cases he
theorem FE {α β : Type} (f : α -> β) (l : Array α) : (l.map f).toList = l.toList.map f:=by simp
theorem Vg {f : Nat} {first cap : Array Operand} (hny : f ≠ yN) (ho : o.op = .makeFunc (.func f) first cap) (hf : first = #[]) (hok : Ok w S ρ β M) (hv : All2 (RepX w S ρ β M.H) vs (cap.toList.map a.eval)) (he : Ap (.mkf f) vs = some v) :
    Outc w S ρ β M (.p (.mkf f)) v M ((execOp a.eval o).run P w):=by
  simp only [Ap,Ah,AaG] at he
  obtain ⟨hn,rfl⟩:=he
  have hr:=hv.toL hn
  rw [<- FE] at hr
  refine .val hok (RepX.ofV (hr.toFn hny)) ?_
  simp [execOp,ho,hf,Instr.makeFunc]
theorem Vd {x : Operand} (ho : o.op = .nilCheck x) (hok : Ok w S ρ β M) (hv : All2 (RepX w S ρ β M.H) vs [a.eval x]) (he : Ap .nck vs = some v) :
    Outc w S ρ β M (.p .nck) v M ((execOp a.eval o).run P w):=by
  cases hv with | cons h t =>
  cases t
  rename_i x0
  have hvx : v = x0 /\ ((∃ p,a.eval x = .pointer (some p)) \/ (∃ f cs,a.eval x = .func (.func f) #[] cs) \/ ∃ l,a.eval x = .func (.yield l) #[] #[]):=by
    simp only [Ap] at he
    split at he
    · cases he; exact ⟨rfl,.inl ⟨_,h⟩⟩
    · cases he
      refine ⟨rfl,.inl ?_⟩
      have h:=RepX.toV rfl h
      generalize a.eval x = c at h
      cases h; exact ⟨_,rfl⟩
    · cases he
      obtain ⟨b,off,hc,_⟩:=Me (RepX.toV rfl h)
      exact ⟨rfl,.inl ⟨_,hc⟩⟩
    · cases he
      obtain ⟨_,cs,hc,_⟩:=RepV.fnL (RepX.toV rfl h)
      exact ⟨rfl,.inr (.inl ⟨_,cs,hc⟩)⟩
    · cases he
      have h:=(RepX.toV rfl h).imm
      generalize a.eval x = c at h
      cases h; exact ⟨rfl,.inr (.inl ⟨_,_,rfl⟩)⟩
    · cases he
      have h:=RepX.toV rfl h
      generalize a.eval x = c at h
      cases h; exact ⟨rfl,.inr (.inr ⟨_,rfl⟩)⟩
    · cases he
  obtain ⟨rfl,hc⟩:=hvx
  refine .val hok h ?_
  rcases hc with ⟨p,hc⟩ | ⟨f,cs,hc⟩ | ⟨l,hc⟩ <;> simp [execOp,ho,hc]
theorem AH {c : Go.Call} {b : Builtin} {r : Sem Value} {x : Value} {w' : World} (ho : o.op = .call c) (hb : c.callee = .builtin b)
    (hr : ∀ consts,builtin b c.argTypes o.type consts (c.args.map a.eval) = (do pure (.value (<- r)))) (hx : r.run P w = .ok x w') : (execOp a.eval o).run P w = .ok (.value x) w':=by
  simp [execOp,ho,resolve,hb,invoke,hr,hx]
theorem Uo (mx : Bool) : ∀ (r : List V) (cs : List Value) (k : IntKind) (x : Int),All2 (RepX w S ρ β H) r cs -> mmX mx k x r = some v ->
    ∃ n,v = .m (.i k n) /\ (cs.foldlM (match mx with | true=>Builtin.max2 | false=>Builtin.min2) (.int k x) : Sem Value).run P w = .ok (.int k n) w
  | [],cs,k,x,hr,he=>by
    cases hr
    simp only [mmX,vi,AaG] at he
    exact ⟨x,he.symm,by simp⟩
  | y :: r,cs,k,x,hr,he=>by
    cases hr with | cons h t =>
    rename_i c cs
    unfold mmX at he
    split at he <;> rename_i heq
    · cases heq
    · rename_i k' y' r'
      cases heq
      have hc:=BY (RepX.toV rfl h)
      subst hc
      obtain ⟨n,hn,hrun⟩:=Uo mx _ cs k _ t he
      refine ⟨n,hn,?_⟩
      cases mx
      · simp only [List.foldlM_cons,Sem.run_bind]
        have : (Builtin.min2 (.int k x) (.int k' y')).run P w = .ok (.int k (YA x y')) w:=by
          simp only [Builtin.min2,YA,EY,Sem.run_pure]
          by_cases h : y' < x <;> simp [h]
        rw [this]
        exact hrun
      · simp only [List.foldlM_cons,Sem.run_bind]
        have : (Builtin.max2 (.int k x) (.int k' y')).run P w = .ok (.int k (YC x y')) w:=by
          simp only [Builtin.max2,YC,EY,Sem.run_pure]
          by_cases h : x < y' <;> simp [h]
        rw [this]
        exact hrun
    · cases he
theorem Uk {c : Go.Call} {mx : Bool} (ho : o.op = .call c) (hb : c.callee = .builtin (match mx with | true=>.max | false=>.min)) (hok : Ok w S ρ β M) (hv : All2 (RepX w S ρ β M.H) vs (c.args.toList.map a.eval)) (he : Ap (.mm mx) vs = some v) :
    Outc w S ρ β M (.p (.mm mx)) v M ((execOp a.eval o).run P w):=by
  cases vs with
  | nil=>simp [Ap] at he
  | cons x r =>
    cases hargs : c.args.toList.map a.eval with
    | nil=>rw [hargs] at hv; cases hv
    | cons c0 cs =>
      rw [hargs] at hv
      cases hv with | cons h t =>
      simp only [Ap] at he
      split at he
      · rename_i k x'
        have hc:=BY (RepX.toV rfl h)
        subst hc
        obtain ⟨n,rfl,hrun⟩:=Uo (P:=P) mx r cs k x' t he
        have hl : (c.args.map a.eval).toList = .int k x' :: cs:=by rw [<- hargs]; simp
        refine .val hok (RepX.ofV (.m (.i k n))) ?_
        cases mx
        · exact AH ho hb (fun _=>rfl) (by simp only [Builtin.min_,hl]; exact hrun)
        · exact AH ho hb (fun _=>rfl) (by simp only [Builtin.max_,hl]; exact hrun)
      · cases he
theorem args1 {α β : Type} {l : Array α} {f : α -> β} {x : β} (h : l.toList.map f = [x]) : l.map f = #[x]:=by
  rw [<- FE] at h
  exact Array.toList_inj.1 (by simpa using h)
theorem Wq {α β : Type} {l : Array α} {f : α -> β} {x y : β} (h : l.toList.map f = [x,y]) : l.map f = #[x,y]:=by
  rw [<- FE] at h
  exact Array.toList_inj.1 (by simpa using h)
theorem EX {c : Value} (h : RepV w S ρ H (.m (.nl 4)) c) : c = .slice none 0 0:=by have:=h.imm; cases this; rfl
theorem Uw {x y : Bool} (h : eqB x y = true) : y = x:=by cases x <;> cases y <;> simp [eqB] at h ⊢
theorem Pi {c : Go.Call} {t : TypeId} {str : Bool} (ho : o.op = .call c) (hb : c.callee = .builtin .len) (ht : c.argTypes[0]? = some t) (hok : Ok w S ρ β M) (hv : All2 (RepX w S ρ β M.H) vs (c.args.toList.map a.eval)) (he : Ap (.len str) vs = some v) (hstr : str = true -> P.underlying t = some .string) (hsl : str = false -> ∃ e,P.underlying t = some (.slice e)) :
    Outc w S ρ β M (.p (.len str)) v M ((execOp a.eval o).run P w):=by
  cases vs with
  | nil=>simp [Ap] at he
  | cons x r =>
    cases r with
    | cons y r=>simp [Ap] at he
    | nil =>
      obtain ⟨c0,hargs,h⟩:=hv.inv1
      have hm:=args1 hargs
      have fin : ∀ n : Nat,v = .m (.i .i64 (Int.ofNat n)) -> (Builtin.len_ c.argTypes o.type #[c0]).run P w = .ok (.int .i64 (n : Int)) w -> Outc w S ρ β M (.p (.len str)) v M ((execOp a.eval o).run P w):=fun n hn hr=>by
        subst hn
        exact .val hok (RepX.ofV (.m (.i .i64 (Int.ofNat n)))) (AH ho hb (fun _=>by rw [hm]; rfl) hr)
      simp only [Ap,vi,Ah] at he
      obtain ⟨hq,he⟩:=he
      have hq:=Uw hq
      subst hq
      split at he
      · simp only [AaG] at he
        obtain ⟨e,hue⟩:=hsl rfl
        have hc:=EX (RepX.toV rfl h)
        subst hc
        exact fin 0 he.symm (by simp [Builtin.len_,ht,run_underlying hue,goInt])
      · rename_i es
        simp only [AaG] at he
        obtain ⟨e,hue⟩:=hsl rfl
        obtain ⟨ad,cap,rfl,_⟩:=Dt (RepX.toV rfl h).imm
        exact fin es.length he.symm (by simp [Builtin.len_,ht,run_underlying hue,goInt])
      · rename_i es
        simp only [AaG] at he
        obtain ⟨e,hue⟩:=hsl rfl
        obtain ⟨ad,cap,rfl,_⟩:=Dt (HL (RepX.toV rfl h))
        exact fin es.length he.symm (by simp [Builtin.len_,ht,run_underlying hue,goInt])
      · rename_i l
        simp only [AaG] at he
        have hue:=hstr rfl
        obtain ⟨s,rfl,rfl⟩:=Dw (RepX.toV rfl h)
        exact fin _ he.symm (by simp [Builtin.len_,ht,run_underlying hue,goInt])
      · rename_i r ver esz st len lim
        simp only [AaG] at he
        obtain ⟨e,hue⟩:=hsl rfl
        have h:=RepX.toV rfl h
        cases h
        exact fin len he.symm (by simp [Builtin.len_,ht,run_underlying hue,goInt])
      · cases he
end
end Go.Mx
/- Operations that touch no memory, third part: cuts of strings and slices; equality. -/
namespace Go.Mx
section
variable {P : Program} {w : World} {S : Nat -> Prop} {ρ β : Nat -> Nat} {M : Mem} {H : Hp} {o : Oper} {a : Act} {hi : Hint} {vs : List V} {v : V}
theorem CT {n j : Nat} {x : V} {c : Value} (h : RepX w S ρ β H x c) (he : bnd n x = some j) : ∃ k,c = .int k (j : Int) /\ j <= n:=by
  unfold bnd at he
  split at he
  · simp only [Ah,AaG,Abv] at he
    obtain ⟨h1,rfl⟩:=he
    exact ⟨_,BY (RepX.toV rfl h),h1⟩
  · cases he
theorem BM {isS lo hi mx : Bool} {n c l h : Nat} {vs : List V} {cs : List Value} {vlo vhi vmx : Option Value} (hn : n <= c) (hcs : cs = vlo.toList ++ vhi.toList ++ vmx.toList)
    (hlo : vlo.isSome = lo) (hhi : vhi.isSome = hi) (hmx : vmx.isSome = mx) (hv : All2 (RepX w S ρ β H) vs cs) (he : Ja n lo hi mx vs = some (l,h)) :
    (Instr.sliceBounds isS n c vlo vhi vmx).run P w = .ok (l,h,if mx then h else c) w /\ l <= h /\ h <= n:=by
  have sb : ∀ (k : IntKind) (j m : Nat) (code : BoundsCode),j <= m -> (Instr.sliceBound (.int k (j : Int)) m code).run P w = .ok j w:=fun k j m code hj=>by
    have:=run_sliceBound (P:=P) (w:=w) k (j : Int) m code (by omega) (by omega)
    simpa using this
  unfold Ja at he
  split at he
  · cases vlo <;> simp at hlo
    cases vhi <;> simp at hhi
    cases vmx <;> simp at hmx
    simp only [AaG,AaH] at he
    obtain ⟨rfl,rfl⟩:=he
    exact ⟨by simp [Instr.sliceBounds],AaT _,AaQ _⟩
  · obtain ⟨vlo,rfl⟩:=AbB.1 hlo
    cases vhi <;> simp at hhi
    cases vmx <;> simp at hmx
    simp only [AaF,AaG,AaH] at he
    obtain ⟨j,hj,rfl,rfl⟩:=he
    obtain ⟨c0,hc0,h0⟩:=hv.inv1
    simp [hc0] at hcs
    subst hcs
    obtain ⟨k,rfl,hle⟩:=CT h0 hj
    exact ⟨by simp [Instr.sliceBounds,sb _ _ _ _ hle],hle,AaQ _⟩
  · cases vlo <;> simp at hlo
    obtain ⟨vhi,rfl⟩:=AbB.1 hhi
    cases vmx <;> simp at hmx
    simp only [AaF,AaG,AaH] at he
    obtain ⟨j,hj,rfl,rfl⟩:=he
    obtain ⟨c0,hc0,h0⟩:=hv.inv1
    simp [hc0] at hcs
    subst hcs
    obtain ⟨k,rfl,hle⟩:=CT h0 hj
    exact ⟨by simp [Instr.sliceBounds,sb _ _ _ _ (AbF hle hn)],AaT _,hle⟩
  · obtain ⟨vlo,rfl⟩:=AbB.1 hlo
    obtain ⟨vhi,rfl⟩:=AbB.1 hhi
    cases vmx <;> simp at hmx
    simp only [AaF,AaG,AaH] at he
    obtain ⟨j,hj,i,hi',rfl,rfl⟩:=he
    obtain ⟨c0,c1,hc0,h0,h1⟩:=hv.inv2
    simp [hc0] at hcs
    obtain ⟨rfl,rfl⟩:=hcs
    obtain ⟨k,rfl,hle⟩:=CT h1 hj
    obtain ⟨k',rfl,hle'⟩:=CT h0 hi'
    exact ⟨by simp [Instr.sliceBounds,sb _ _ _ _ (AbF hle hn),sb _ _ _ _ hle'],hle',hle⟩
  · cases vlo <;> simp at hlo
    obtain ⟨vhi,rfl⟩:=AbB.1 hhi
    obtain ⟨vmx,rfl⟩:=AbB.1 hmx
    simp only [AaF,Ah,AaV,AaG,AaH] at he
    obtain ⟨m,hm,j,hj,rfl,rfl,rfl⟩:=he
    obtain ⟨c0,c1,hc0,h0,h1⟩:=hv.inv2
    simp [hc0] at hcs
    obtain ⟨rfl,rfl⟩:=hcs
    obtain ⟨k,rfl,hle⟩:=CT h1 hm
    obtain ⟨k',rfl,hle'⟩:=CT h0 hj
    exact ⟨by simp [Instr.sliceBounds,sb _ _ _ _ (AbF hle hn),sb _ _ _ _ hle'],AaT _,hle⟩
  · obtain ⟨vlo,rfl⟩:=AbB.1 hlo
    obtain ⟨vhi,rfl⟩:=AbB.1 hhi
    obtain ⟨vmx,rfl⟩:=AbB.1 hmx
    simp only [AaF,Ah,AaV,AaG,AaH] at he
    obtain ⟨m,hm,j,hj,rfl,i,hi',rfl,rfl⟩:=he
    obtain ⟨c0,c1,c2,hc0,h0,h1,h2⟩:=hv.inv3
    simp [hc0] at hcs
    obtain ⟨rfl,rfl,rfl⟩:=hcs
    obtain ⟨k,rfl,hle⟩:=CT h2 hm
    obtain ⟨k',rfl,hle'⟩:=CT h1 hj
    obtain ⟨k'',rfl,hle''⟩:=CT h0 hi'
    exact ⟨by simp [Instr.sliceBounds,sb _ _ _ _ (AbF hle hn),sb _ _ _ _ hle',sb _ _ _ _ hle''],hle'',hle⟩
  · cases he
theorem DN {α β : Type} (f : α -> β) (x y z : Option α) : (x.toList ++ y.toList ++ z.toList).map f = (x.map f).toList ++ (y.map f).toList ++ (z.map f).toList:=by
  cases x <;> cases y <;> cases z <;> rfl
theorem KN {es : List (List I)} {ad : Option Addr} {n cap l h m : Nat} {esz : Nat} (hI : RepI w S (.sl es) (.slice ad n cap)) (hl : l <= h) (hh : h <= n) (hm : h <= m) (hmc : m <= cap) (hsz : ∀ e,e ∈ es -> e.length = esz) :
    RepI w S (.sl ((es.drop l).take (h - l))) (.slice (if m = l then ad else ad.map (·.add (l * esz))) (h - l) (m - l)):=by
  cases hI with
  | sl _ _ _ esz' b off cs hcap hmx hsz' ha hnn hc hr =>
    have hlen : ((es.drop l).take (h - l)).length = h - l:=by rw [AaW,Abt]; omega
    have hget : ∀ {i e},((es.drop l).take (h - l))[i]? = some e -> es[l + i]? = some e:=fun {i e} hi=>by
      rw [Abx] at hi
      split at hi
      · rwa [List.getElem?_drop] at hi
      · cases hi
    have key:=RepI.sl (w:=w) (S:=S) ((es.drop l).take (h - l)) (if m = l then ad else ad.map (·.add (l * esz))) (m - l) esz' b (off + l * esz') (fun i j=>cs (l + i) j)
      (by omega) (by omega) (fun e he=>hsz' e (List.mem_of_mem_drop (AbZ he)))
      (fun hne=>by
        have hpos : 0 < h - l:=by rw [<- hlen]; exact List.length_pos_iff.2 hne
        have hes : es ≠ []:=by rintro rfl; simp at hlen; omega
        have hez : esz = esz':=by
          obtain ⟨e,he⟩:=List.exists_mem_of_ne_nil es hes
          rw [<- hsz e he,hsz' e he]
        obtain ⟨h1,h2⟩:=ha hes
        subst h1
        rw [AaL (by omega),hez]
        exact ⟨by simp [Be],h2⟩)
      (by obtain ⟨p,rfl⟩:=hnn; split; exact ⟨_,rfl⟩; exact ⟨_,rfl⟩)
      (fun i e j x hi hj=>by
        have:=hc _ _ _ _ (hget hi) hj
        rw [<- this]
        congr 2
        rw [Abm]
        omega)
      (fun i e j x hi hj=>hr _ _ _ _ (hget hi) hj)
    rw [hlen] at key
    exact key
theorem VC {es : List (List I)} {c : Value} (h : RepI w S (.sl es) c) : ∃ n,∀ e,e ∈ es -> e.length = n:=by
  cases h with
  | sl _ _ _ esz b off cs hcap hmx hsz ha hnn hc hr=>exact ⟨esz,hsz⟩
theorem KM {t : TypeId} {z : Nat} {x : Operand} {lo hi mx : Option Operand} (ho : o.op = .slice t x lo hi mx) (hu : P.underlying t = some .string) {l : List Nat}
    (hok : Ok w S ρ β M) (h : RepX w S ρ β M.H (.m (.s l)) (a.eval x)) (hv : All2 (RepX w S ρ β M.H) vs ((lo.toList ++ hi.toList ++ mx.toList).map a.eval)) (he : Ap (.slc z lo.isSome hi.isSome mx.isSome) (.m (.s l) :: vs) = some v) :
    Outc w S ρ β M (.p (.slc z lo.isSome hi.isSome mx.isSome)) v M ((execOp a.eval o).run P w):=by
  simp only [Ap,Ah,AaF,AaG] at he
  obtain ⟨_,hmx,⟨pl,ph⟩,hb,rfl⟩:=he
  have hmn : mx = none:=by cases mx <;> simp at hmx ⊢
  subst hmn
  obtain ⟨s,hx,rfl⟩:=Dw (RepX.toV rfl h)
  rw [DN] at hv
  have hlen : (s.data.toList.map UInt8.toNat).length = s.size:=by simp
  rw [hlen] at hb
  obtain ⟨hrun,h1,h2⟩:=BM (P:=P) (isS:=false) (c:=s.size) (AaQ _) rfl (by simp) (by simp) (by simp) hv hb
  refine .val hok (RepX.ofV (.m (.s (s.extract pl ph) _ ?_))) ?_
  · have : (s.extract pl ph).data.toList = (s.data.toList.drop pl).take (ph - pl):=by
      rw [ByteArray.data_extract,Array.toList_extract]
    rw [this,List.map_take,List.map_drop]
  · simp only [execOp,ho,hx,Instr.sliceAt,Sem.run_bind,run_underlying hu,Result.andThen_ok,Instr.slice]
    simp only [Option.map_none] at hrun
    simp [hrun]
theorem Mi {es : List (List I)} {c : Value} {n : Nat} (h : RepI w S (.sl es) c) (he : okEl n es = true) : ∀ e,e ∈ es -> e.length = n:=by
  obtain ⟨k,hk⟩:=VC h
  cases es with
  | nil=>simp
  | cons e es =>
    simp only [okEl,AaV] at he
    have:=hk e (by simp)
    intro x hx
    rw [hk x hx]
    omega
theorem Vc {t e : TypeId} {x : Operand} {lo hi mx : Option Operand} {i : TypeInfo} {z : Nat} (ho : o.op = .slice t x lo hi mx) (hu : P.underlying t = some (.slice e)) (hi' : P.info? e = some i) (hz : i.size = z) {x0 : V}
    (hok : Ok w S ρ β M) (h : RepX w S ρ β M.H x0 (a.eval x)) (hns : ∀ l,x0 ≠ .m (.s l)) (hv : All2 (RepX w S ρ β M.H) vs ((lo.toList ++ hi.toList ++ mx.toList).map a.eval)) (he : Ap (.slc z lo.isSome hi.isSome mx.isSome) (x0 :: vs) = some v) :
    Outc w S ρ β M (.p (.slc z lo.isSome hi.isSome mx.isSome)) v M ((execOp a.eval o).run P w):=by
  subst hz
  rw [DN] at hv
  have run : ∀ ad n cap,a.eval x = .slice ad n cap -> ∀ l h m,(Instr.sliceBounds true n cap (lo.map a.eval) (hi.map a.eval) (mx.map a.eval)).run P w = .ok (l,h,m) w ->
      (execOp a.eval o).run P w = .ok (.value (.slice (if m = l then ad else ad.map (·.add (l * i.size))) (h - l) (m - l))) w:=fun ad n cap hx l h m hb=>by
    simp only [execOp,ho,hx,Instr.sliceAt,Sem.run_bind,run_underlying hu,Result.andThen_ok,Instr.slice,hb,AA hi',Sem.run_pure]
  simp only [Ap] at he
  replace he:=(Ah.1 he).2
  split at he
  · exact absurd rfl (hns _)
  · simp only [AaF,AaG] at he
    obtain ⟨⟨pl,ph⟩,hb,rfl⟩:=he
    have hx:=EX (RepX.toV rfl h)
    obtain ⟨hrun,h1,h2⟩:=BM (P:=P) (isS:=true) (c:=0) (AaQ _) rfl (by simp) (by simp) (by simp) hv hb
    have hr:=run _ _ _ hx _ _ _ hrun
    have hp0 : pl = 0:=by omega
    have hq0 : ph = 0:=by omega
    subst hp0; subst hq0
    refine .val hok (RepX.ofV (.m .nls)) ?_
    rw [hr]
    simp
  · rename_i es
    simp only [Ah,AaF,AaG] at he
    obtain ⟨hel,⟨pl,ph⟩,hb,rfl⟩:=he
    have hI:=(RepX.toV rfl h).imm
    have hesz:=Mi hI hel
    obtain ⟨ad,cap,hx,hcap,hcm,_⟩:=Dt hI
    rw [hx] at hI
    obtain ⟨hrun,h1,h2⟩:=BM (P:=P) (isS:=true) (c:=cap) hcap rfl (by simp) (by simp) (by simp) hv hb
    have hcut:=fun m (hm : ph <= m) (hmc : m <= cap)=>KN hI h1 h2 hm hmc hesz
    have hr:=run _ _ _ hx _ _ _ hrun
    have hlen : ((es.drop pl).take (ph - pl)).length = ph - pl:=by rw [AaW,Abt]; omega
    cases hmx : mx.isSome with
    | true =>
      rw [hmx] at hr
      refine .val hok (RepX.ofV ?_) hr
      simp only [if_true]
      have hc:=hcut ph (AaQ _) (by omega)
      have:=RepV.ls (w:=w) (S:=S) (ρ:=ρ) (H:=M.H) ((es.drop pl).take (ph - pl)) (if ph = pl then ad else ad.map (·.add (pl * i.size))) (by rw [hlen]; exact hc)
      rw [hlen] at this
      exact this
    | false =>
      rw [hmx] at hr
      refine .val hok (RepX.ofV (.m ?_)) hr
      simp only [AbO,if_false]
      exact hcut cap (by omega) (AaQ _)
  · rename_i es
    simp only [Ah,AaF,AaG] at he
    obtain ⟨hel,⟨pl,ph⟩,hb,rfl⟩:=he
    have hV:=RepX.toV rfl h
    have hI:=HL hV
    have hesz:=Mi hI hel
    obtain ⟨ad,hx⟩ : ∃ ad,a.eval x = .slice ad es.length es.length:=by generalize a.eval x = c at hV; cases hV; exact ⟨_,rfl⟩
    rw [hx] at hI
    obtain ⟨hrun,h1,h2⟩:=BM (P:=P) (isS:=true) (c:=es.length) (AaQ _) rfl (by simp) (by simp) (by simp) hv hb
    have hcut:=fun m (hm : ph <= m) (hmc : m <= es.length)=>KN hI h1 h2 hm hmc hesz
    have hr:=run _ _ _ hx _ _ _ hrun
    have hlen : ((es.drop pl).take (ph - pl)).length = ph - pl:=by rw [AaW,Abt]; omega
    have lsr : ∀ m,m = ph -> (hm : ph <= m) -> (hmc : m <= es.length) -> RepV w S ρ M.H (.ls ((es.drop pl).take (ph - pl))) (.slice (if m = pl then ad else ad.map (·.add (pl * i.size))) (ph - pl) (m - pl)):=fun m hmp hm hmc=>by
      subst hmp
      have hc:=hcut m hm hmc
      have:=RepV.ls (w:=w) (S:=S) (ρ:=ρ) (H:=M.H) ((es.drop pl).take (m - pl)) (if m = pl then ad else ad.map (·.add (pl * i.size))) (by rw [hlen]; exact hc)
      rw [hlen] at this
      exact this
    cases hmx : mx.isSome with
    | true =>
      rw [hmx] at hr
      refine .val hok (RepX.ofV ?_) hr
      simp only [if_true,Bool.true_or]
      exact lsr ph rfl (AaQ _) (by omega)
    | false =>
      rw [hmx] at hr
      refine .val hok (RepX.ofV ?_) hr
      simp only [AbO,if_false,Bool.false_or]
      cases hbq : Nat.beq ph es.length with
      | true=>exact lsr es.length (AaY hbq).symm (by omega) (AaQ _)
      | false=>exact .m (hcut es.length (by omega) (AaQ _))
  · rename_i r ver esz st len lim
    simp only [Ah,AaV,AaF,AaG] at he
    obtain ⟨hsz,⟨pl,ph⟩,hb,rfl⟩:=he
    subst hsz
    have hV:=RepX.toV rfl h
    generalize hx : a.eval x = c at hV
    cases hV with
    | sl _ _ _ _ _ _ ty es base fz ad cap hrow h1 h2 h3 h4 h5 hn hb' ha =>
      obtain ⟨hrun,k1,k2⟩:=BM (P:=P) (isS:=true) (c:=cap) h3 rfl (by simp) (by simp) (by simp) hv hb
      have hr:=run _ _ _ hx _ _ _ hrun
      refine .val hok (RepX.ofV ?_) hr
      refine .sl r ver i.size (st + pl) (ph - pl) _ ty es base fz _ _ hrow (by omega) h2 ?_ ?_ ?_ ?_ ?_ ?_
      · split <;> omega
      · split <;> omega
      · intro hlim
        cases hmx : mx.isSome with
        | true=>simp
        | false =>
          rw [hmx] at hlim
          simp only [Bool.false_or,AaJ,AaV] at hlim
          have:=h5 hlim.1
          simp
          omega
      · obtain ⟨p,hp⟩:=hn
        subst hp
        have key : ∀ q : Nat,∃ p',(if q = pl then some p else Option.map (fun x=>x.add (pl * i.size)) (some p)) = some p':=fun q=>by split <;> exact ⟨_,rfl⟩
        exact key _
      · intro hbv hpos
        obtain ⟨b,hp,hA⟩:=hb' hbv (by omega)
        subst hp
        have hne : ¬ (if mx.isSome = true then ph else cap) = pl:=by split <;> omega
        rw [AaL hne]
        exact ⟨b,by simp [Be,Abm],hA⟩
      · intro hve hst hlim hle
        have hmx : mx.isSome = false:=by cases hmx : mx.isSome <;> simp [hmx] at hlim ⊢
        have hl0 : lim = false:=by
          cases lim with
          | false=>rfl
          | true =>
            rw [hmx] at hlim
            have hbq : Nat.beq ph len = true:=by rw [AaV]; omega
            simp [hbq] at hlim
        obtain ⟨hp,cur,mk,hh,hcs⟩:=ha hve (by omega) hl0 (by omega)
        subst hp
        have hp0 : pl = 0:=by omega
        subst hp0
        refine ⟨?_,cur,mk,hh,?_⟩
        · split <;> simp [Be]
        · rw [hmx]; simpa using hcs
  · cases he
end
end Go.Mx
/- '==' over bools, integers, strings, and structs and arrays of such, cell by cell; keys of maps. -/
namespace Go.Mx
section
variable {P : Program} {w : World} {S : Nat -> Prop} {ρ β : Nat -> Nat} {M : Mem} {H : Hp}
def Vt (P : Program) (t : TypeId) (c : Value) (cs : List Value) : Prop:=(BZ P t = some true /\ ∃ a : Array Value,c = .agg a /\ a.toList = cs) \/ (BZ P t = some false /\ cs = [c])
def LI (w : World) (S : Nat -> Prop) (xs : List I) (cs : List Value) : Prop:=RepL w S id [] (xs.map .m) cs
theorem LI.ofL {xs : List I} {cs : List Value} (h : RepL w S ρ H (xs.map .m) cs) : LI w S xs cs:=by
  obtain ⟨hl,c,hc,hr⟩:=h.toI
  refine ⟨by simpa using hl,fun j x hj=>?_⟩
  simp only [Abb,Abh] at hj
  obtain ⟨y,hy,rfl⟩:=hj
  exact ⟨c j,hc j y hy,.m (hr j y hy)⟩
theorem LI.len {xs : List I} {cs : List Value} (h : LI w S xs cs) : cs.length = xs.length:=by have:=h.1; simpa using this
theorem LI.drop {xs : List I} {cs : List Value} (h : LI w S xs cs) (n : Nat) : LI w S (xs.drop n) (cs.drop n):=by have:=RepL.drop h n; rwa [<- List.map_drop] at this
theorem LI.take {xs : List I} {cs : List Value} (h : LI w S xs cs) (n : Nat) : LI w S (xs.take n) (cs.take n):=by have:=RepL.take h n; rwa [<- List.map_take] at this
theorem LI.one {x : I} {c : Value} (h : LI w S [x] [c]) : RepI w S x c:=(RepL.head (xs:=[]) (cs:=[]) h).imm
theorem VO {t : TypeId} {ag : Bool} {i : TypeInfo} (w : World) (hag : BZ P t = some ag) (hi : P.info? t = some i) (hs : ag = false -> i.size = 1) {cs : Array Value} {off : Nat} (hl : ag = false -> off < cs.size) :
    ∃ c,(part t cs off).run P w = .ok c w /\ Vt P t c ((cs.toList.drop off).take i.size):=by
  cases ag with
  | true =>
    refine ⟨.agg (cs.extract off (off + i.size)),by simp [part,CY hag,AA hi],.inl ⟨hag,_,rfl,?_⟩⟩
    simp [List.take_drop]
  | false =>
    obtain ⟨c,hc⟩ : ∃ c,cs[off]? = some c:=⟨_,Array.getElem?_eq_getElem (hl rfl)⟩
    refine ⟨c,by simp [part,CY hag,hc],.inr ⟨hag,?_⟩⟩
    rw [hs rfl]
    have h2 : cs.toList[off]? = some c:=by simpa using hc
    obtain ⟨h3,h4⟩:=AaI.1 h2
    rw [List.drop_eq_getElem_cons h3,h4]
    rfl
theorem EE : ∀ (k1 k2 : List Nat) (xs ys : List I) (r : Bool),Ew (k1 ++ k2) xs ys = some r ->
    ∃ r1 r2,Ew k1 (xs.take k1.length) (ys.take k1.length) = some r1 /\ Ew k2 (xs.drop k1.length) (ys.drop k1.length) = some r2 /\ r = (r1 && r2)
  | [],k2,xs,ys,r,h=>⟨true,r,by simp [Ew],by simpa using h,by simp⟩
  | k :: k1,k2,xs,ys,r,h=>by
    cases xs with
    | nil=>simp [Ew] at h
    | cons x xs =>
      cases ys with
      | nil=>simp [Ew] at h
      | cons y ys =>
        simp only [AbQ,Ew,AaF,AaG] at h
        obtain ⟨a,ha,b,hb,rfl⟩:=h
        obtain ⟨r1,r2,h1,h2,rfl⟩:=EE k1 k2 xs ys b hb
        exact ⟨a && r1,r2,by simp [Ew,ha,h1],by simpa using h2,by simp [Bool.and_assoc]⟩
theorem Dy : ∀ (ks : List Nat) (xs ys : List I) (r : Bool),Ew ks xs ys = some r -> xs.length = ks.length /\ ys.length = ks.length
  | [],[],[],_,_=>by simp
  | [],_ :: _,_,_,h=>by simp [Ew] at h
  | [],[],_ :: _,_,h=>by simp [Ew] at h
  | _ :: _,[],_,_,h=>by simp [Ew] at h
  | _ :: _,_ :: _,[],_,h=>by simp [Ew] at h
  | k :: ks,x :: xs,y :: ys,r,h=>by
    simp only [Ew,AaF,AaG] at h
    obtain ⟨a,ha,b,hb,rfl⟩:=h
    have:=Dy ks xs ys b hb
    simp [this.1,this.2]
theorem GX {k : Nat} {x y : I} {r : Bool} {c c' : Value} (h : eqC k x y = some r) (hx : RepI w S x c) (hy : RepI w S y c') :
    (k = 0 /\ ∃ a b,c = .bool a /\ c' = .bool b /\ r = (a == b)) \/ (k = 1 /\ ∃ j a b,c = .int j a /\ c' = .int j b /\ r = (a == b)) \/ (k = 2 /\ ∃ a b,c = .string a /\ c' = .string b /\ r = (a == b)):=by
  unfold eqC at h
  split at h
  · simp only [Ah,AaV,AaG] at h
    obtain ⟨rfl,rfl⟩:=h
    cases hx; cases hy
    exact .inl ⟨rfl,_,_,rfl,rfl,rfl⟩
  · simp only [Ah,AaJ,AaV,Uv,AaG] at h
    obtain ⟨⟨rfl,rfl⟩,rfl⟩:=h
    cases hx; cases hy
    exact .inr (.inl ⟨rfl,_,_,_,rfl,rfl,Ff ..⟩)
  · simp only [Ah,AaV,AaG] at h
    obtain ⟨rfl,rfl⟩:=h
    cases hx with | s a _ ha =>
    cases hy with | s b _ hb =>
    subst ha; subst hb
    refine .inr (.inr ⟨rfl,_,_,rfl,rfl,?_⟩)
    rw [HV]
    rw [beq_toListBytes,ByteArray.toList_eq,ByteArray.toList_eq]
    by_cases e : a.data.toList = b.data.toList
    · rw [e]; simp
    · have h1 : ¬ a.data.toList.map UInt8.toNat = b.data.toList.map UInt8.toNat:=fun h=>e (BV.1 h)
      rw [AaO h1,beq_eq_false_iff_ne.2 e]
  · cases h
def EqT (P : Program) (d : Nat) (t : TypeId) (ks : List Nat) : Prop:=∀ (w : World) (S : Nat -> Prop) (c c' : Value) (cs cs' : List Value) (xs ys : List I) (r : Bool),Vt P t c cs -> Vt P t c' cs' -> LI w S xs cs -> LI w S ys cs' -> Ew ks xs ys = some r -> (Op.equalIn d t c c').run P w = .ok r w
theorem JO {k : Nat} {t : TypeId} {ks : List Nat} (h : Cq P k t = some ks) : ∃ ag,BZ P t = some ag /\ (ag = false -> ks.length = 1):=by
  cases k with
  | zero=>simp [Cq] at h
  | succ k =>
    simp only [Cq] at h
    split at h
    · rename_i hu
      exact ⟨false,by simp [BZ,hu],fun _=>by simp at h; simp [<- h]⟩
    · rename_i hu
      exact ⟨false,by simp [BZ,hu],fun _=>by simp at h; simp [<- h]⟩
    · rename_i hu
      exact ⟨false,by simp [BZ,hu],fun _=>by simp at h; simp [<- h]⟩
    · rename_i hu
      exact ⟨true,by simp [BZ,hu],by simp⟩
    · rename_i hu
      exact ⟨true,by simp [BZ,hu],by simp⟩
    · cases h
theorem Dh {k : Nat} {t : TypeId} {ks : List Nat} (h : Cq P k t = some ks) {i : TypeInfo} (hi : P.info? t = some i) (hsz : i.size = ks.length) {az : Array Value} {o : Nat} {xs : List I} (hx : LI w S xs (az.toList.drop o)) (hl : ks.length <= xs.length) :
    ∃ c,(part t az o).run P w = .ok c w /\ Vt P t c ((az.toList.drop o).take ks.length):=by
  obtain ⟨ag,hag,h1⟩:=JO h
  rw [<- hsz]
  refine VO w hag hi (fun e=>by rw [hsz]; exact h1 e) (fun e=>?_)
  have:=hx.len
  simp at this
  have:=h1 e
  omega
theorem GV {d k : Nat} (IH : ∀ t ks,Cq P k t = some ks -> EqT P d t ks) (S : Nat -> Prop) (az bs : Array Value) : ∀ (fs : List Field) (o : Nat) (ks : List Nat),HR (Cq P k) (Bi P) o fs = some ks ->
    ∀ (xs ys : List I) (r : Bool),LI w S xs (az.toList.drop o) -> LI w S ys (bs.toList.drop o) -> Ew ks xs ys = some r -> (Op.eqFields d az bs fs).run P w = .ok r w
  | [],o,ks,h,xs,ys,r,hx,hy,he=>by
    simp only [HR,AaG] at h
    subst h
    have : r = true:=by
      cases xs <;> cases ys <;> simp [Ew] at he
      exact he
    subst this
    simp [Op.eqFields]
  | f :: fs,o,ks,h,xs,ys,r,hx,hy,he=>by
    simp only [HR,Ah,AaJ,AaV,AaU,AaF,AaG,AB] at h
    obtain ⟨⟨ho,hn⟩,s,hs,s',⟨i,hi,rfl⟩,hsz,l,hl,rfl⟩:=h
    obtain ⟨r1,r2,h1,h2,rfl⟩:=EE _ _ _ _ _ he
    have hle:=Dy _ _ _ _ he
    simp at hle
    obtain ⟨c,p1,v1⟩:=Dh hs hi hsz.symm hx (by omega)
    obtain ⟨c',p2,v2⟩:=Dh hs hi hsz.symm hy (by omega)
    have e1:=IH _ _ hs w S c c' _ _ _ _ r1 v1 v2 (hx.take _) (hy.take _) h1
    simp only [Op.eqFields,hn,ne_eq,not_false_eq_true,if_true,ho,Sem.run_bind,p1,p2,e1,Result.andThen_ok]
    have hx2:=hx.drop s.length
    have hy2:=hy.drop s.length
    rw [List.drop_drop] at hx2 hy2
    rw [<- hsz] at hl
    have ih:=GV IH S az bs fs (o + s.length) l hl _ _ r2 hx2 hy2 h2
    cases r1
    · simp
    · simpa using ih
theorem HQ {d k : Nat} {e : TypeId} {s : List Nat} (hs : Cq P k e = some s) (IH : EqT P d e s) {i : TypeInfo} (hi : P.info? e = some i) (hsz : i.size = s.length) (S : Nat -> Prop) (az bs : Array Value) : ∀ (n j : Nat) (xs ys : List I) (r : Bool),
    LI w S xs (az.toList.drop (j * s.length)) -> LI w S ys (bs.toList.drop (j * s.length)) -> Ew (List.replicate n s).flatten xs ys = some r -> (Op.eqItems d e s.length az bs (List.range' j n)).run P w = .ok r w
  | 0,j,xs,ys,r,hx,hy,he=>by
    have : r = true:=by
      cases xs <;> cases ys <;> simp [Ew] at he
      exact he
    subst this
    simp [Op.eqItems]
  | n + 1,j,xs,ys,r,hx,hy,he=>by
    rw [List.replicate_succ,AbA] at he
    obtain ⟨r1,r2,h1,h2,rfl⟩:=EE _ _ _ _ _ he
    have hle:=Dy _ _ _ _ he
    simp only [AaX] at hle
    obtain ⟨c,p1,v1⟩:=Dh hs hi hsz hx (by omega)
    obtain ⟨c',p2,v2⟩:=Dh hs hi hsz hy (by omega)
    have e1:=IH w S c c' _ _ _ _ r1 v1 v2 (hx.take _) (hy.take _) h1
    simp only [List.range'_succ,Op.eqItems,Sem.run_bind,p1,p2,e1,Result.andThen_ok]
    have hx2:=hx.drop s.length
    have hy2:=hy.drop s.length
    rw [List.drop_drop,show j * s.length + s.length = (j + 1) * s.length by rw [Abm]; omega] at hx2 hy2
    have ih:=HQ hs IH hi hsz S az bs n (j + 1) _ _ r2 hx2 hy2 h2
    cases r1
    · simp
    · simpa using ih
theorem Vt.agg {t : TypeId} {c : Value} {cs : List Value} (h : Vt P t c cs) (ha : BZ P t = some true) : ∃ a : Array Value,c = .agg a /\ a.toList = cs:=by
  rcases h with h | h
  · exact h.2
  · rw [ha] at h; cases h.1
theorem Vt.cell {t : TypeId} {c : Value} {cs : List Value} (h : Vt P t c cs) (ha : BZ P t = some false) : cs = [c]:=by
  rcases h with h | h
  · rw [ha] at h; cases h.1
  · exact h.2
theorem IG {k : Nat} {x y : List I} {r : Bool} (h : Ew [k] x y = some r) : ∃ a b,x = [a] /\ y = [b] /\ eqC k a b = some r:=by
  have:=Dy _ _ _ _ h
  match x,y,this with
  | [a],[b],_ =>
    simp only [Ew,AaF,AaG] at h
    obtain ⟨p,hp,q,rfl,rfl⟩:=h
    exact ⟨a,b,rfl,rfl,by simpa using hp⟩
theorem Iy : ∀ (k : Nat) (t : TypeId) (ks : List Nat),Cq P k t = some ks -> ∀ d,EqT P (d + k) t ks
  | 0,_,_,h,_=>by simp [Cq] at h
  | k + 1,t,ks,h,d=>by
    intro w S c c' cs cs' xs ys r v1 v2 hx hy he
    simp only [Cq] at h
    split at h
    · rename_i hu
      have hag : BZ P t = some false:=by simp [BZ,hu]
      simp only [AaG] at h
      subst h
      obtain ⟨a,b,rfl,rfl,hc⟩:=IG he
      have:=v1.cell hag; subst this
      have:=v2.cell hag; subst this
      rcases GX hc hx.one hy.one with ⟨_,p,q,rfl,rfl,rfl⟩ | ⟨h,_⟩ | ⟨h,_⟩
      · exact run_equalIn_bool w _ t p q hu
      · cases h
      · cases h
    · rename_i kk hu
      have hag : BZ P t = some false:=by simp [BZ,hu]
      simp only [AaG] at h
      subst h
      obtain ⟨a,b,rfl,rfl,hc⟩:=IG he
      have:=v1.cell hag; subst this
      have:=v2.cell hag; subst this
      rcases GX hc hx.one hy.one with ⟨h,_⟩ | ⟨_,j,p,q,rfl,rfl,rfl⟩ | ⟨h,_⟩
      · cases h
      · exact run_equalIn_int w _ t j kk p q hu
      · cases h
    · rename_i hu
      have hag : BZ P t = some false:=by simp [BZ,hu]
      simp only [AaG] at h
      subst h
      obtain ⟨a,b,rfl,rfl,hc⟩:=IG he
      have:=v1.cell hag; subst this
      have:=v2.cell hag; subst this
      rcases GX hc hx.one hy.one with ⟨h,_⟩ | ⟨h,_⟩ | ⟨_,p,q,rfl,rfl,rfl⟩
      · cases h
      · cases h
      · rw [beq_toListBytes]; exact run_equalIn_string w _ t p q hu
    · rename_i fs hu
      have hag : BZ P t = some true:=by simp [BZ,hu]
      simp only [Ah,Abi] at h
      obtain ⟨hst,h⟩:=h
      obtain ⟨a,rfl,rfl⟩:=v1.agg hag
      obtain ⟨b,rfl,rfl⟩:=v2.agg hag
      have hfs : P.fieldsOf t = fs:=by simp [Program.fieldsOf,hu]
      rw [<- Nat.add_assoc,run_equalIn_struct w (d + k) t a b (by rw [hfs]; exact hu) hst,hfs]
      exact GV (fun t ks hk=>Iy k t ks hk d) S a b fs.toList 0 ks h xs ys r (by simpa using hx) (by simpa using hy) he
    · rename_i n e hu
      have hag : BZ P t = some true:=by simp [BZ,hu]
      simp only [AaF,Ah,AaV,AaG,AB] at h
      obtain ⟨s,hs,s',⟨i,hi,rfl⟩,hsz,rfl⟩:=h
      obtain ⟨a,rfl,rfl⟩:=v1.agg hag
      obtain ⟨b,rfl,rfl⟩:=v2.agg hag
      have hce : P.cellsOf e = s.length:=by simp [Program.cellsOf,hi,hsz]
      rw [<- Nat.add_assoc,run_equalIn_array w (d + k) a b hu hi,hce,List.range_eq_range']
      exact HQ hs (Iy k e s hs d) hi hsz.symm S a b n 0 xs ys r (by simpa using hx) (by simpa using hy) he
    · cases h
end
end Go.Mx
