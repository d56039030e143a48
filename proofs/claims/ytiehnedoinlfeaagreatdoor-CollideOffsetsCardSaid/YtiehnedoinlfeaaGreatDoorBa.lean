/- The machine: what its values stand for, the checked translation, soundness (part 1). Nothing here speaks of a program. -/
import Derived.Test.YtiehnedoinlfeaaGreatDoorRng
import Derived.Calls
import Derived.Laws.AppendOwn
import Derived.Below
import GoSem.Core.Layout
import GoSem.Machine.Frame
import Derived.Laws.StructEq
import Derived.Laws.Unary
import Derived.Laws.Slices
import Derived.Laws.Strings3
import Derived.ChangeKeysEq
set_option linter.unusedSimpArgs false
set_option linter.unusedVariables false
set_option linter.unusedSectionVars false
namespace Go.Mx
section
variable {α:Type}
def Uni (n:Nat)(es:List (List α)):Prop:=∀e,e∈es->e.length=n
variable {n:Nat} {e:List α} {es:List (List α)}
theorem Uni.tail (h:Uni n (e::es)):Uni n es:=fun x u=>h x (by simp[u])
theorem Uni.head (h:Uni n (e::es)):e.length=n:=h e (by simp)
theorem Uni.len:∀ {es:List (List α)},Uni n es->es.flatten.length=es.length*n
  | [],_=>by simp
  | e::es,h=>by simp[h.head,h.tail.len,Aif];omega
theorem Uni.append {z:List (List α)}(h:Uni n es)(k:Uni n z):Uni n (es++z):=fun x E=>by
  rcases Aig.1 E with u|u
  · exact h x u
  · exact k x u
theorem Uni.take (h:Uni n es)(k:Nat):Uni n (es.take k):=fun x u=>h x (Aiz u)
theorem Uni.drop (h:Uni n es)(k:Nat):Uni n (es.drop k):=fun x u=>h x (List.mem_of_mem_drop u)
variable {k:Nat}
theorem Uni.replicate (h:e.length=n):Uni n (List.replicate k e):=fun x u=>by rw[(List.mem_replicate.1 u).2];exact h
variable {i:Nat}
theorem Uni.get (h:Uni n es)(u:es[i]? = some e):e.length=n:=h e (Ahw u)
variable {f:List α}
theorem KB (h:e.length=n):(e++f).drop (k+n)=f.drop k:=by
  rw[Nat.add_comm,<-AiH,<-h,List.drop_left]
theorem OT (h:e.length=n):(e++f).take (k+n)=e++f.take k:=by
  rw[Nat.add_comm,List.take_add,<-h,List.take_left,List.drop_left]
theorem Ix {n:Nat}:∀ {es:List (List α)},Uni n es -> ∀k,(es.drop k).flatten=es.flatten.drop (k*n)
  | [],_,k=>by simp
  | e::es,h,0=>by simp
  | e::es,h,k+1=>by
    rw[List.drop_succ_cons,Ix h.tail k,Ain,Aif,Nat.one_mul,KB h.head]
theorem Iv {n:Nat}:∀ {es:List (List α)},Uni n es -> ∀k,(es.take k).flatten=es.flatten.take (k*n)
  | [],_,k=>by simp
  | e::es,h,0=>by simp
  | e::es,h,k+1=>by
    rw[List.take_succ_cons,Ain,Iv h.tail k,Ain,Aif,Nat.one_mul,OT h.head]
theorem HC (h:Uni n es)(u:es[i]? = some e):e=(es.flatten.drop (i*n)).take n:=by
  have z:=(Ahq.1 u).1
  rw[<-Ix h,AiM z,Ain]
  have hi:es[i]=e:=(Ahq.1 u).2
  rw[hi,List.take_append,AhJ (by rw[h.get u];exact Ahu _),h.get u]
  simp
theorem Do (h:Uni n es)(z:es[i]? = some e){j:Nat}{x:α}(u:e[j]? = some x):es.flatten[i*n+j]? = some x:=by
  rw[HC h z]at u
  rw[AhX]at u
  split at u
  · rwa[AiS]at u
  · cases u
theorem PE (z:0<n)(h:Uni n es){p:Nat}{x:α}(E:es.flatten[p]? = some x):∃e,es[p / n]? = some e/\e[p%n]? = some x:=by
  have J:p<es.length*n:=by rw[<-h.len];exact(Ahq.1 E).1
  have u:p / n<es.length:=(Nat.div_lt_iff_lt_mul z).2 J
  refine⟨es[p / n],Ahr u,?_⟩
  rw[HC h (Ahr u),AhX,Ahv (Nat.mod_lt _ z),AiS]
  have:p / n*n+p%n=p:=by rw[AiU];exact Nat.div_add_mod p n
  rw[this];exact E
theorem Gd (n:Nat):∀(k:Nat) (l:List α),(Ct n k l).length=k
  | 0,_=>rfl
  | k+1,l=>by simp[Ct,Gd n k]
theorem Gc (n:Nat):∀(k:Nat) (l:List α),k*n<=l.length->Uni n (Ct n k l)
  | 0,_,_=>fun _ h=>by simp[Ct]at h
  | k+1,l,h=>fun x u=>by
    rw[Aif,Nat.one_mul]at h
    simp only[Ct,AhO]at u
    rcases u with rfl|u
    · simp;omega
    · exact Gc n k (l.drop n) (by simp;omega) x u
theorem Fd (n:Nat):∀(k:Nat) (l:List α),k*n<=l.length->(Ct n k l).flatten=l.take (k*n)
  | 0,_,_=>by simp[Ct]
  | k+1,l,h=>by
    rw[Aif,Nat.one_mul]at h ⊢
    rw[Ct,Ain,Fd n k _ (by simp;omega),Nat.add_comm (k*n) n,List.take_add]
theorem Bw:∀ {l:List α} {i:Nat} {x:α} {u:List α},AN l i x=some u->i<l.length/\u=l.set i x
  | [],i,x,u,h=>by simp[AN]at h
  | y::l,0,x,u,h=>by simp[AN]at h;simp[<-h]
  | y::l,i+1,x,u,h=>by
    simp only[AN,Ahn,Aho]at h
    obtain⟨m,z,rfl⟩:=h
    obtain⟨E,rfl⟩:=Bw z
    exact⟨by simp;omega,rfl⟩
theorem Uni.set (h:Uni n es)(z:e.length=n):Uni n (es.set i e):=fun x E=>by
  rcases List.mem_or_eq_of_mem_set E with u|u
  · exact h x u
  · rw[u];exact z
theorem Kr {n:Nat}:∀ {es:List (List α)},Uni n es -> ∀ {i:Nat} {e:List α},i<es.length->e.length=n->(es.set i e).flatten=es.flatten.take (i*n)++e++es.flatten.drop (i*n+n)
  | [],_,i,e,hi,_=>by simp at hi
  | x::es,h,0,e,_,he=>by
    have u:=KB (k:=0) (f:=es.flatten) h.head
    rw[List.set_cons_zero,Ain,Ain,Nat.zero_mul,u]
    simp
  | x::es,h,i+1,e,hi,he=>by
    rw[List.set_cons_succ,Ain,Kr h.tail (by simpa using hi) he,Ain,Aif,Nat.one_mul,OT h.head,
      show i*n+n+n=(i*n+n)+n from rfl,KB h.head]
    simp only[AiB]
end
end Go.Mx
namespace Go.Mx
inductive RepI (w:World) (S:Nat->Prop):I->Value->Prop where
  | b (x:Bool):RepI w S (.b x) (.bool x)
  | i (k:IntKind) (n:Int):RepI w S (.i k n) (.int k n)
  | s (x:ByteArray) (l:List Nat) (h:x.data.toList.map UInt8.toNat=l):RepI w S (.s l) (.string x)
  | nlp:RepI w S (.nl 0) (.pointer none)
  | nlm:RepI w S (.nl 1) (.map none)
  | nlf:RepI w S (.nl 2) .nilFunc
  | nli:RepI w S (.nl 3) .nilIface
  | nls:RepI w S (.nl 4) (.slice none 0 0)
  | er (t:TypeId) (v:Value):RepI w S .er (.iface t v)
  | sl (es:LT) (a:Option Addr) (cap esz b off:Nat) (cs:Nat->Nat->Value)
      (hcap:es.length<=cap) (hm:cap<=maxLen) (hsz:∀e,e∈es->e.length=esz)
      (ha:es≠[]->a=some ⟨b,off,none⟩/\S b) (hnn:∃p,a=some p)
      (hc:∀i e j x,es[i]? = some e->e[j]? = some x->w.cell? ⟨b,off+(i*esz+j),none⟩=some (cs i j))
      (hr:∀i e j x,es[i]? = some e->e[j]? = some x->RepI w S x (cs i j)):RepI w S (.sl es) (.slice a es.length cap)
  | pt (xs:List I) (b off:Nat) (cs:Nat->Value) (hS:S b)
      (hc:∀(j:Nat) x,xs[j]? = some x->w.cell? ⟨b,off+j,none⟩=some (cs j))
      (hr:∀(j:Nat) x,xs[j]? = some x->RepI w S x (cs j)):RepI w S (.pt xs) (.pointer (some ⟨b,off,none⟩))
  | ag (xs:List I) (cs:Array Value) (hl:cs.size=xs.length) (c:Nat->Value)
      (hc:∀(j:Nat) x,xs[j]? = some x->cs[j]? = some (c j)) (hr:∀(j:Nat) x,xs[j]? = some x->RepI w S x (c j)):RepI w S (.ag xs) (.agg cs)
  | mp (es:LT) (r:Nat) (ents:Array MapEntry) (clock:Nat) (ks xs:Nat->Value) (hS:S r) (hw:w.heap[r]? = some (.map ents clock)) (hl:ents.size=es.length)
      (hp:∀(j:Nat) e,es[j]? = some e -> ∃k x,e=[k,x])
      (hk:∀(j:Nat) k x,es[j]? = some [k,x]->(ents[j]?).map (·.key)=some (ks j)) (hx:∀(j:Nat) k x,es[j]? = some [k,x]->(ents[j]?).map (·.val)=some (xs j))
      (hkr:∀(j:Nat) k x,es[j]? = some [k,x]->RepI w S k (ks j)) (hxr:∀(j:Nat) k x,es[j]? = some [k,x]->RepI w S x (xs j)):RepI w S (.mp es) (.map (some r))
  | fn (f:Nat) (hny:f≠yN) (xs:List I) (cs:Array Value) (hl:cs.size=xs.length) (c:Nat->Value)
      (hc:∀(j:Nat) x,xs[j]? = some x->cs[j]? = some (c j)) (hr:∀(j:Nat) x,xs[j]? = some x->RepI w S x (c j)):RepI w S (.fn f xs) (.func (.func f) #[] cs)
theorem RepI.mono {w w':World}{S S':Nat->Prop}(hw:∀b,S b->w'.heap[b]? = w.heap[b]?)(hS:∀b,S b->S' b){x:I}{c:Value}(h:RepI w S x c):RepI w' S' x c:=by
  have u:∀b o,S b->w'.cell? ⟨b,o,none⟩=w.cell? ⟨b,o,none⟩:=fun b o h=>World.cell?_of_block (hw b h)
  induction h with
  | b x=>exact .b x
  | i k n=>exact .i k n
  | s x l h=>exact .s x l h
  | nlp=>exact .nlp
  | nlm=>exact .nlm
  | nlf=>exact .nlf
  | nli=>exact .nli
  | nls=>exact .nls
  | er t v=>exact .er t v
  | sl es a cap a4 b off cs Y hm a1 ha hnn J hr E =>
    refine .sl es a cap a4 b off cs Y hm a1 (fun W=>⟨(ha W).1,hS _ (ha W).2⟩) hnn (fun i e j x hi hj=>?_) E
    rw[u _ _ (ha (by rintro rfl;simp at hi)).2]
    exact J i e j x hi hj
  | pt xs b off cs Q J hr E=>exact .pt xs b off cs (hS _ Q) (fun j x hj=>by rw[u _ _ Q];exact J j x hj) E
  | ag xs cs Z c J hr E=>exact .ag xs cs Z c J E
  | mp es r U z ks xs N a2 Z hp hk hx hkr hxr a0 a3=>exact .mp es r U z ks xs (hS _ N) (by rw[hw _ N];exact a2) Z hp hk hx a0 a3
  | fn f a5 xs cs Z c J hr E=>exact .fn f a5 xs cs Z c J E
theorem AU {α:Type}:∀(l:List α) (n:Nat),nth l n=l[n]?
  | [],n=>by simp[nth]
  | x::l,0=>rfl
  | x::l,n+1=>by simp[nth,AU l n]
theorem Ag {α:Type}{b:Bool}{x:Option α}{y:α}:gd b x=some y↔b=true/\x=some y:=by cases b <;> simp[gd]
def At (w:World)(S:Nat->Prop)(g:Nat)(b ver esz n:Nat):Prop :=
  b=g\/(S b/\ver≠n /\ ∀j,j<ver*esz->w.cell? ⟨b,j,none⟩=w.cell? ⟨g,j,none⟩)
inductive RepV (w:World) (S:Nat->Prop) (ρ:Nat->Nat) (H:Hp):V->Value->Prop where
  | m {x:I} {c:Value} (h:RepI w S x c):RepV w S ρ H (.m x) c
  | un:RepV w S ρ H .un undef
  | ls (es:LT) (a:Option Addr) (h:RepI w S (.sl es) (.slice a es.length es.length)):RepV w S ρ H (.ls es) (.slice a es.length es.length)
  | sl (r ver esz st len:Nat) (lim:Bool) (ty:Nat) (es:L0) (base:Nat) (fz:Bool) (a:Option Addr) (cap:Nat)
      (hrow:H[r]? = some (.cs ty esz es base fz)) (h1:st+len<=ver) (h2:ver<=es.length) (h3:len<=cap) (h4:cap<=maxLen) (h5:lim=true->cap=len) (hn:∃p,a=some p)
      (hb:base<=ver->0<len -> ∃b,a=some ⟨b,st*esz,none⟩/\At w S (ρ r) b ver esz es.length)
      (ha:ver=es.length->st=0->lim=false->len=es.length->a=some ⟨ρ r,0,none⟩ /\ ∃cur mk,w.heap[ρ r]? = some (.cells cur ty mk)/\cur.size=cap*esz) :
      RepV w S ρ H (.sl r ver esz st len lim) (.slice a len cap)
  | pt (r ver ix off:Nat) (ty esz:Nat) (es:L0) (base:Nat) (fz:Bool) (p:Addr)
      (hrow:H[r]? = some (.cs ty esz es base fz)) (h2:ver<=es.length) (hx:ix<ver)
      (hb:base<=ver -> ∃b,p=⟨b,ix*esz+off,none⟩/\At w S (ρ r) b ver esz es.length):RepV w S ρ H (.pt r ver ix off) (.pointer (some p))
  | mp (r:Nat) (es:List (I×V)) (fz:Bool) (hrow:H[r]? = some (.mp es fz)):RepV w S ρ H (.mp r) (.map (some (ρ r)))
  | yl (r st:Nat) (pd:Option (Option Nat)) (E:List (Nat×V)) (ps:List Nat) (ca cb:C) (hrow:H[r]? = some (.lp st pd E ps ca cb)):RepV w S ρ H (.yl r) (.func (.yield (ρ r)) #[] #[])
  | fn (f:Nat) (hny:f≠yN) (xs:List V) (cs:Array Value) (hl:cs.size=xs.length) (c:Nat->Value)
      (hc:∀(j:Nat) x,xs[j]? = some x->cs[j]? = some (c j)) (hr:∀(j:Nat) x,xs[j]? = some x->RepV w S ρ H x (c j)):RepV w S ρ H (.fn f xs) (.func (.func f) #[] cs)
  | ag (xs:List V) (cs:Array Value) (hl:cs.size=xs.length) (c:Nat->Value)
      (hc:∀(j:Nat) x,xs[j]? = some x->cs[j]? = some (c j)) (hr:∀(j:Nat) x,xs[j]? = some x->RepV w S ρ H x (c j)):RepV w S ρ H (.ag xs) (.agg cs)
  | tu (xs:List V) (cs:Array Value) (hl:cs.size=xs.length) (c:Nat->Value)
      (hc:∀(j:Nat) x,xs[j]? = some x->cs[j]? = some (c j)) (hr:∀(j:Nat) x,xs[j]? = some x->RepV w S ρ H x (c j)):RepV w S ρ H (.tu xs) (.tuple cs)
def RepL (w:World)(S:Nat->Prop)(ρ:Nat->Nat)(H:Hp)(xs:List V)(cs:List Value):Prop :=
  cs.length=xs.length /\ ∀(j:Nat) x,xs[j]? = some x -> ∃c,cs[j]? = some c/\RepV w S ρ H x c
section
variable {w:World} {S:Nat->Prop} {ρ:Nat->Nat} {H:Hp}
theorem RepL.nil:RepL w S ρ H [] []:=⟨rfl,by simp⟩
variable {x:V} {c:Value} {xs:List V} {cs:List Value}
theorem RepL.cons (h:RepV w S ρ H x c)(hs:RepL w S ρ H xs cs):RepL w S ρ H (x::xs) (c::cs):=by
  refine⟨by simp[hs.1],fun j y u=>?_⟩
  cases j with
  | zero=>simp at u;subst u;exact⟨c,by simp,h⟩
  | succ j=>simpa using hs.2 j y (by simpa using u)
theorem RepL.head (h:RepL w S ρ H (x::xs) (c::cs)):RepV w S ρ H x c:=by
  obtain⟨E,u,z⟩:=h.2 0 x (by simp)
  simp at u
  exact u ▸ z
theorem RepL.tail (h:RepL w S ρ H (x::xs) (c::cs)):RepL w S ρ H xs cs :=
  ⟨by simpa using h.1,fun j y u=>by simpa using h.2 (j+1) y (by simpa using u)⟩
theorem RepL.inv_nil (h:RepL w S ρ H [] cs):cs=[]:=AhT (by simpa using h.1)
theorem RepL.inv_cons (h:RepL w S ρ H (x::xs) cs):∃c r,cs=c::r/\RepV w S ρ H x c/\RepL w S ρ H xs r:=by
  cases cs with
  | nil=>have:=h.1;simp at this
  | cons c r=>exact⟨c,r,rfl,h.head,h.tail⟩
theorem RepL.append {ys:List V}{u:List Value}(h:RepL w S ρ H xs cs)(k:RepL w S ρ H ys u):RepL w S ρ H (xs++ys) (cs++u):=by
  induction xs generalizing cs with
  | nil=>rw[h.inv_nil];exact k
  | cons x xs z=>obtain⟨c,r,rfl,E,J⟩:=h.inv_cons;exact .cons E (z J)
theorem RepL.take (h:RepL w S ρ H xs cs)(n:Nat):RepL w S ρ H (xs.take n) (cs.take n):=by
  induction xs generalizing cs n with
  | nil=>rw[h.inv_nil];simpa using RepL.nil
  | cons x xs u =>
    obtain⟨c,r,rfl,z,E⟩:=h.inv_cons
    cases n with
    | zero=>simpa using RepL.nil
    | succ n=>exact .cons z (u E n)
theorem RepL.drop (h:RepL w S ρ H xs cs)(n:Nat):RepL w S ρ H (xs.drop n) (cs.drop n):=by
  induction xs generalizing cs n with
  | nil=>rw[h.inv_nil];simpa using RepL.nil
  | cons x xs u =>
    obtain⟨c,r,rfl,E,z⟩:=h.inv_cons
    cases n with
    | zero=>simpa using h
    | succ n=>simpa using u z n
theorem RepL.of_skolem {cs:Array Value}(hl:cs.size=xs.length)(c:Nat->Value) 
    (E:∀(j:Nat) x,xs[j]? = some x->cs[j]? = some (c j)) (z:∀(j:Nat) x,xs[j]? = some x->RepV w S ρ H x (c j)):RepL w S ρ H xs cs.toList :=
  ⟨by simpa using hl,fun j x u=>⟨c j,by simpa using E j x u,z j x u⟩⟩
theorem RepL.skolem (h:RepL w S ρ H xs cs):∃c:Nat->Value,(∀(j:Nat) x,xs[j]? = some x->cs[j]? = some (c j))/\(∀(j:Nat) x,xs[j]? = some x->RepV w S ρ H x (c j)):=by
  refine⟨fun j=>cs.getD j undef,fun j x u=>?_,fun j x u=>?_⟩
  · obtain⟨c,z,_⟩:=h.2 j x u
    simp[z]
  · obtain⟨c,z,E⟩:=h.2 j x u
    simpa[z]using E
theorem RepL.toAg {cs:Array Value}(h:RepL w S ρ H xs cs.toList):RepV w S ρ H (.ag xs) (.agg cs):=by
  obtain⟨c,E,z⟩:=h.skolem
  exact .ag xs cs (by simpa using h.1) c (fun j x u=>by simpa using E j x u) z
theorem RepL.toTu {cs:Array Value}(h:RepL w S ρ H xs cs.toList):RepV w S ρ H (.tu xs) (.tuple cs):=by
  obtain⟨c,E,z⟩:=h.skolem
  exact .tu xs cs (by simpa using h.1) c (fun j x u=>by simpa using E j x u) z
theorem RepL.toFn {f:Nat}(u:f≠yN){cs:Array Value}(h:RepL w S ρ H xs cs.toList):RepV w S ρ H (.fn f xs) (.func (.func f) #[] cs):=by
  obtain⟨c,J,E⟩:=h.skolem
  exact .fn f u xs cs (by simpa using h.1) c (fun j x z=>by simpa using J j x z) E
theorem RepV.agL (h:RepV w S ρ H (.ag xs) c):∃cs,c=.agg cs/\RepL w S ρ H xs cs.toList:=by
  cases h with
  | ag xs cs u c E z=>exact⟨cs,rfl,.of_skolem u c E z⟩
theorem RepV.tuL (h:RepV w S ρ H (.tu xs) c):∃cs,c=.tuple cs/\RepL w S ρ H xs cs.toList:=by
  cases h with
  | tu xs cs u c E z=>exact⟨cs,rfl,.of_skolem u c E z⟩
theorem RepV.fnL {f:Nat}(h:RepV w S ρ H (.fn f xs) c):f≠yN /\ ∃cs,c=.func (.func f) #[] cs/\RepL w S ρ H xs cs.toList:=by
  cases h with
  | fn f u xs cs z c J E=>exact⟨u,cs,rfl,.of_skolem z c J E⟩
theorem RepV.imm {x:I}(h:RepV w S ρ H (.m x) c):RepI w S x c:=by cases h;assumption
theorem RepL.ofI {xs:List I}{cs:Array Value}(hl:cs.size=xs.length)(c:Nat->Value) 
    (E:∀(j:Nat) x,xs[j]? = some x->cs[j]? = some (c j)) (z:∀(j:Nat) x,xs[j]? = some x->RepI w S x (c j)):RepL w S ρ H (xs.map .m) cs.toList:=by
  refine⟨by simpa using hl,fun j x u=>?_⟩
  rw[AhN]at u
  cases hx:xs[j]? with
  | none=>simp[hx]at u
  | some y =>
    simp only[hx,Aix,Aho]at u
    subst u
    exact⟨c j,by simpa using E j y hx,.m (z j y hx)⟩
theorem RepL.toI {xs:List I}(h:RepL w S ρ H (xs.map .m) cs):cs.length=xs.length /\ ∃c:Nat->Value,(∀(j:Nat) x,xs[j]? = some x->cs[j]? = some (c j)) /\ ∀(j:Nat) x,xs[j]? = some x->RepI w S x (c j):=by
  obtain⟨c,E,z⟩:=h.skolem
  refine⟨by simpa using h.1,c,fun j x u=>E j (.m x) (by simp[u]),fun j x u=>(z j (.m x) (by simp[u])).imm⟩
theorem RepV.ofAgI {xs:List I}(h:RepV w S ρ H (.m (.ag xs)) c):∃cs,c=.agg cs/\RepL w S ρ H (xs.map .m) cs.toList:=by
  cases h.imm with
  | ag xs cs u c E z=>exact⟨cs,rfl,.ofI u c E z⟩
theorem RepL.toAgI {xs:List I}{cs:Array Value}(h:RepL w S ρ H (xs.map .m) cs.toList):RepV w S ρ H (.m (.ag xs)) (.agg cs):=by
  obtain⟨u,c,J,E⟩:=h.toI
  exact .m (.ag xs cs (by simpa using u) c (fun j x z=>by simpa using J j x z) E)
theorem Oi:∀ {xs:List V} {l:List I},BF xs=some l->xs=l.map .m
  | [],l,h=>by simp[BF]at h;simp[h]
  | .m x::xs,l,h=>by
    simp only[BF,Ahn,Aho]at h
    obtain⟨z,u,rfl⟩:=h
    simp[Oi u]
  | .un::_,_,h=>by simp[BF]at h
  | .ls _::_,_,h=>by simp[BF]at h
  | .sl .. :: _,_,h=>by simp[BF]at h
  | .pt .. :: _,_,h=>by simp[BF]at h
  | .fa .. :: _,_,h=>by simp[BF]at h
  | .mp _::_,_,h=>by simp[BF]at h
  | .fn .. :: _,_,h=>by simp[BF]at h
  | .ag _::_,_,h=>by simp[BF]at h
  | .tu _::_,_,h=>by simp[BF]at h
theorem RepL.mkAg {cs:Array Value}(h:RepL w S ρ H xs cs.toList):RepV w S ρ H (mkAg xs) (.agg cs):=by
  unfold Mx.mkAg
  cases hx:BF xs with
  | none=>exact h.toAg
  | some l=>rw[Oi hx]at h;exact h.toAgI
theorem RepV.cells {v:V}{l:List V}(h:RepV w S ρ H v c)(hl:AA v=some l):RepL w S ρ H l c.cells.toList:=by
  have one:∀ {v:V} {c:Value},RepV w S ρ H v c->c.cells=#[c]->RepL w S ρ H [v] c.cells.toList:=fun h e=>by rw[e];exact .cons h .nil
  cases h with
  | m hI=>cases hI with
    | ag xs cs z c J N=>simp[AA]at hl;subst hl;exact RepL.ofI z c J N
    | b x=>simp[AA]at hl;subst hl;exact one (.m (.b x)) rfl
    | i k n=>simp[AA]at hl;subst hl;exact one (.m (.i k n)) rfl
    | s x l' h=>simp[AA]at hl;subst hl;exact one (.m (.s x l' h)) rfl
    | nlp=>simp[AA]at hl;subst hl;exact one (.m .nlp) rfl
    | nlm=>simp[AA]at hl;subst hl;exact one (.m .nlm) rfl
    | nlf=>simp[AA]at hl;subst hl;exact one (.m .nlf) rfl
    | nli=>simp[AA]at hl;subst hl;exact one (.m .nli) rfl
    | nls=>simp[AA]at hl;subst hl;exact one (.m .nls) rfl
    | er t v=>simp[AA]at hl;subst hl;exact one (.m (.er t v)) rfl
    | sl es a cap U b off cs hcap hm hsz ha hnn J N=>simp[AA]at hl;subst hl;exact one (.m (.sl es a cap U b off cs hcap hm hsz ha hnn J N)) rfl
    | pt xs b off cs hS J N=>simp[AA]at hl;subst hl;exact one (.m (.pt xs b off cs hS J N)) rfl
    | mp es r a0 W ks xs hS hw z hp hk hx hkr hxr=>simp[AA]at hl;subst hl;exact one (.m (.mp es r a0 W ks xs hS hw z hp hk hx hkr hxr)) rfl
    | fn f Y xs cs z c J N=>simp[AA]at hl;subst hl;exact one (.m (.fn f Y xs cs z c J N)) rfl
  | un=>simp[AA]at hl
  | ls es a h=>simp[AA]at hl;subst hl;exact one (.ls es a h) rfl
  | sl r Z U st len lim ty es Q fz a cap u h1 h2 h3 h4 h5 hn hb ha=>simp[AA]at hl;subst hl;exact one (.sl r Z U st len lim ty es Q fz a cap u h1 h2 h3 h4 h5 hn hb ha) rfl
  | pt r Z ix off ty U es Q fz p u h2 hx hb=>simp[AA]at hl;subst hl;exact one (.pt r Z ix off ty U es Q fz p u h2 hx hb) rfl
  | mp r es fz u=>simp[AA]at hl;subst hl;exact one (.mp r es fz u) rfl
  | yl r st pd E ps ca cb u=>simp[AA]at hl;subst hl;exact one (.yl r st pd E ps ca cb u) rfl
  | fn f Y xs cs z c J N=>simp[AA]at hl;subst hl;exact one (.fn f Y xs cs z c J N) rfl
  | ag xs cs z c J N=>simp[AA]at hl;subst hl;exact RepL.of_skolem z c J N
  | tu xs cs z c J N=>simp[AA]at hl
def stM:Nat->Option LoopState
  | 0=>some .ready
  | 1=>some .busy
  | 2=>some .done
  | 3=>some .exhausted
  | _=>none
def pdM:Option (Option Nat)->Option Code
  | none=>none
  | some none=>some .ret
  | some (some id)=>some (.exit id)
def Win (n:Nat)(mk:Nat×Nat):Prop:=mk=(0,0)\/n<=mk.1
def Brn (ents:Array MapEntry)(clock:Nat):Prop:=(∀x,x∈ents.toList->x.born<clock)/\(ents.toList.map (·.born)).Nodup
def RowOk (w:World)(S:Nat->Prop)(ρ:Nat->Nat)(H:Hp)(r:Nat):Row->Prop
  | .cs ty esz es base fz=>base<=es.length/\0<esz/\(∀e,e∈es->e.length=esz)/\(fz=true->S (ρ r))/\(fz=false -> ¬S (ρ r)) /\
      ∃cur cap mk,w.heap[ρ r]? = some (.cells cur ty mk)/\(fz=false->Win cur.size mk)/\cur.size=cap*esz/\es.length<=cap/\cap<=maxLen /\
        RepL w S ρ H es.flatten (cur.toList.take (es.length*esz))
  | .mp es fz=>(fz=true->S (ρ r))/\(fz=false -> ¬S (ρ r)) /\ ∃ents clock,w.heap[ρ r]? = some (.map ents clock)/\(ents.size=es.length/\Brn ents clock) /\
        ∀(j:Nat) k x,es[j]? = some (k,x) -> ∃ent,ents[j]? = some ent/\RepI w S k ent.key/\RepV w S ρ H x ent.val
  | .lp st pd E ps ca cb=>¬S (ρ r) /\ ∃(rec:Loop) (hi:Hint) (dr:Nat->List Nat),w.heap[ρ r]? = some (.loop rec)/\rec.params.toList=ps/\RelC hi dr rec.assign ca/\RelC hi dr rec.body cb/\wfC rec.tmps.size ca=true/\wfC rec.tmps.size cb=true /\
        (∀p,p∈ps->hi.loc p=false/\p<rec.tmps.size)/\stM st=some rec.state/\pdM pd=rec.pending /\ ∀n v,Cd E n=some v->hi.loc n=false/\Az v=true/\RepV w S ρ H v (rec.tmps.getD n undef)
structure Ok (w:World)(S:Nat->Prop)(ρ β:Nat->Nat)(M:Mem):Prop where
  rows:∀r row,M.H[r]? = some row->RowOk w S ρ M.H r row
  boxes:∀d cs,getB M.B d=some cs -> ∃cur T,w.heap[β d]? = some (.cells cur T (0,0))/\RepL w S ρ M.H cs cur.toList
  inj:∀r r',r<M.H.length->r'<M.H.length->ρ r=ρ r'->r=r'
  bij:∀d d',(getB M.B d).isSome->(getB M.B d').isSome->β d=β d'->d=d'
  rb:∀r d,r<M.H.length->(getB M.B d).isSome->ρ r≠β d
  bns:∀d,(getB M.B d).isSome -> ¬S (β d)
  lt:∀b,S b->b<w.heap.size
variable {β:Nat->Nat} {M:Mem}
theorem Ok.rlt {w:World}{S:Nat->Prop}{ρ:Nat->Nat}(h:Ok w S ρ β M){r:Nat}(Z:r<M.H.length):ρ r<w.heap.size:=by
  obtain⟨row,u⟩:∃row,M.H[r]? = some row:=⟨_,Ahr Z⟩
  have lt:∀o,w.heap[ρ r]? = some o->ρ r<w.heap.size:=fun o U=>(AhY.1 U).1
  cases row with
  | cs ty Y es Q fz=>obtain⟨_,_,_,_,_,cur,cap,mk,z,_⟩:=h.rows r _ u;exact lt _ z
  | mp es fz=>obtain⟨_,_,N,J,z,_⟩:=h.rows r _ u;exact lt _ z
  | lp st pd E ps ca cb=>obtain⟨_,W,_,_,z,_⟩:=h.rows r _ u;exact lt _ z
theorem Ok.blt {w:World}{S:Nat->Prop}{ρ:Nat->Nat}(h:Ok w S ρ β M){d:Nat}(E:(getB M.B d).isSome):β d<w.heap.size:=by
  obtain⟨cs,u⟩:=Ais.1 E
  obtain⟨cur,T,z,_⟩:=h.boxes d cs u
  exact(AhY.1 z).1
structure Gw (w w':World)(row:Option Nat):Prop extends World.grownBy w w' row where
  drawn:drawM=true->w.drawn<=w'.drawn
theorem Gw.alloc (w:World)(x:Obj)(row:Option Nat):Gw w (w.alloc x) row:=⟨World.grownBy_alloc w x row,fun _=>Ahu _⟩
structure Stp (w:World)(S:Nat->Prop)(ρ β:Nat->Nat)(M:Mem)(w':World)(S':Nat->Prop)(ρ':Nat->Nat)(H':Hp):Prop where
  vals:∀v c,RepV w S ρ M.H v c->RepV w' S' ρ' H' v c
  stab:∀b,S b->S' b
  heap:∀b,S b->w'.heap[b]? = w.heap[b]?
  keep:∀b,b<w.heap.size->(∀r,r<M.H.length->b≠ρ r)->(∀d,(getB M.B d).isSome->b≠β d)->w'.heap[b]? = w.heap[b]?
  news:∀b,S' b->S b\/w.heap.size<=b \/ ∃r,r<M.H.length/\b=ρ r
  rown:∀r,r<H'.length->(∃q,q<M.H.length/\ρ' r=ρ q)\/w.heap.size<=ρ' r
  size:w.heap.size<=w'.heap.size
  os:w'.os=w.os
  tape:w'.tape=w.tape
  output:w'.output=w.output
  drawn:drawM=true->w.drawn<=w'.drawn
variable {w':World} {S':Nat->Prop} {ρ':Nat->Nat}
theorem Stp.imm {w:World}{S:Nat->Prop}{ρ:Nat->Nat}{H':Hp}(h:Stp w S ρ β M w' S' ρ' H'){x:I}(u:RepI w S x c):RepI w' S' x c :=
  (h.vals (.m x) c (.m u)).imm
theorem Stp.list {w:World}{S:Nat->Prop}{ρ:Nat->Nat}{H':Hp}(h:Stp w S ρ β M w' S' ρ' H')(u:RepL w S ρ M.H xs cs):RepL w' S' ρ' H' xs cs :=
  ⟨u.1,fun j x z=>let ⟨c,J,E⟩:=u.2 j x z;⟨c,J,h.vals _ _ E⟩⟩
theorem Stp.refl (w:World)(S:Nat->Prop)(ρ β:Nat->Nat)(M:Mem):Stp w S ρ β M w S ρ M.H :=
  ⟨fun _ _ h=>h,fun _ h=>h,fun _ _=>rfl,fun _ _ _ _=>rfl,fun _ h=>.inl h,fun r h=>.inl ⟨r,h,rfl⟩,Ahu _,rfl,rfl,rfl,fun _=>Ahu _⟩
end
end Go.Mx
namespace Go.Mx
structure RowsTo (w:World)(S:Nat->Prop)(ρ:Nat->Nat)(H:Hp)(w':World)(S':Nat->Prop)(ρ':Nat->Nat)(H':Hp):Prop where
  hw:∀b,S b->w'.heap[b]? = w.heap[b]?
  hS:∀b,S b->S' b
  cs:∀r ty esz es base fz,H[r]? = some (.cs ty esz es base fz) -> ∃es' base' fz',H'[r]? = some (.cs ty esz es' base' fz')/\es.length<=es'.length/\base<=base' /\
    (∀b ver,ver<=es.length->base'<=ver->At w S (ρ r) b ver esz es.length->At w' S' (ρ' r) b ver esz es'.length) /\
    (es'.length=es.length->ρ' r=ρ r /\ ∀cur mk,w.heap[ρ r]? = some (.cells cur ty mk) -> ∃cur' mk',w'.heap[ρ r]? = some (.cells cur' ty mk')/\cur'.size=cur.size)
  mp:∀r es fz,H[r]? = some (.mp es fz)->ρ' r=ρ r /\ ∃es' fz',H'[r]? = some (.mp es' fz')
  lp:∀r st pd E ps ca cb,H[r]? = some (.lp st pd E ps ca cb)->ρ' r=ρ r /\ ∃st' pd',H'[r]? = some (.lp st' pd' E ps ca cb)
theorem RepV.mono {w w':World}{S S':Nat->Prop}{ρ ρ':Nat->Nat}{H H':Hp}(J:RowsTo w S ρ H w' S' ρ' H'){v:V}{c:Value}(h:RepV w S ρ H v c):RepV w' S' ρ' H' v c:=by
  induction h with
  | m hI=>exact .m (hI.mono J.hw J.hS)
  | un=>exact .un
  | ls es a hI=>exact .ls es a (hI.mono J.hw J.hS)
  | sl r Z Y st len lim ty es W fz a cap z h1 h2 h3 h4 h5 hn hb ha =>
    obtain⟨a1,N,U,u,hlen,hbase,hat,a0⟩:=J.cs r ty Y es W fz z
    refine .sl r Z Y st len lim ty a1 N U a cap u h1 (by omega) h3 h4 h5 hn (fun hv hl=>?_) (fun hv hs hl he=>?_)
    · obtain⟨b,hab,hA⟩:=hb (by omega) hl
      exact⟨b,hab,hat b Z h2 hv hA⟩
    · obtain⟨Q,hcur⟩:=a0 (by omega)
      obtain⟨hab,cur,mk,hh,hsz⟩:=ha (by omega) hs hl (by omega)
      obtain⟨cur',mk',hh',hsz'⟩:=hcur cur mk hh
      exact⟨by rw[Q];exact hab,cur',mk',by rw[Q];exact hh',by rw[hsz',hsz]⟩
  | pt r Z ix off ty Y es W fz p z h2 hx hb =>
    obtain⟨a1,N,U,u,hlen,hbase,hat,a0⟩:=J.cs r ty Y es W fz z
    refine .pt r Z ix off ty Y a1 N U p u (by omega) hx (fun hv=>?_)
    obtain⟨b,hp,hA⟩:=hb (by omega)
    exact⟨b,hp,hat b Z h2 hv hA⟩
  | mp r es fz z =>
    obtain⟨Q,a1,U,u⟩:=J.mp r es fz z
    rw[<-Q]
    exact .mp r a1 U u
  | yl r st pd E ps ca cb z =>
    obtain⟨Q,st',pd',u⟩:=J.lp r st pd E ps ca cb z
    rw[<-Q]
    exact .yl r st' pd' E ps ca cb u
  | fn f hny xs cs hl c hc hr ih=>exact .fn f hny xs cs hl c hc ih
  | ag xs cs hl c hc hr ih=>exact .ag xs cs hl c hc ih
  | tu xs cs hl c hc hr ih=>exact .tu xs cs hl c hc ih
section
variable {w w':World} {S S':Nat->Prop} {ρ ρ' β β':Nat->Nat} {M M':Mem}
theorem RepL.mono {H H':Hp}(u:RowsTo w S ρ H w' S' ρ' H'){xs:List V}{cs:List Value}(h:RepL w S ρ H xs cs):RepL w' S' ρ' H' xs cs :=
  ⟨h.1,fun j x z=>let ⟨c,J,E⟩:=h.2 j x z;⟨c,J,E.mono u⟩⟩
theorem RowsTo.stp (z:RowsTo w S ρ M.H w' S' ρ' M'.H){row:Option Nat}(E:Gw w w' row) 
    (J:∀b,row=some b->(∃r,r<M.H.length/\b=ρ r) \/ ∃d,(getB M.B d).isSome/\b=β d)
    (u:∀b,S' b->S b\/w.heap.size<=b \/ ∃r,r<M.H.length/\b=ρ r) (Q:∀r,r<M'.H.length->(∃q,q<M.H.length/\ρ' r=ρ q)\/w.heap.size<=ρ' r):Stp w S ρ β M w' S' ρ' M'.H where
  vals _ _ h:=h.mono z
  stab:=z.hS
  heap:=z.hw
  keep b hb hr hd:=E.block b hb (fun e=>by
    rcases J b e.symm with ⟨r,U,e⟩|⟨d,N,e⟩
    · exact hr r U e
    · exact hd d N e)
  news:=u
  rown:=Q
  size:=E.size
  os:=E.os
  tape:=E.tape
  output:=E.output
  drawn:=E.drawn
variable {g:Nat}
theorem At.same {b ver u n:Nat}(W:∀b,S b->w'.heap[b]? = w.heap[b]?)(U:∀b,S b->S' b)(J:w'.heap[g]? = w.heap[g]?)(h:At w S g b ver u n):At w' S' g b ver u n:=by
  rcases h with h|⟨z,Q,N⟩
  · exact .inl h
  · refine .inr ⟨U b z,Q,fun j E=>?_⟩
    rw[World.cell?_of_block (a:=⟨b,j,none⟩) (W b z),World.cell?_of_block (a:=⟨g,j,none⟩) J]
    exact N j E
variable {row:Row}
theorem RowOk.same {H H':Hp}{r:Nat}(z:RowsTo w S ρ H w' S' ρ' H')(u:ρ' r=ρ r)(hg:w'.heap[ρ r]? = w.heap[ρ r]?)(hn:S' (ρ r)->S (ρ r))(h:RowOk w S ρ H r row):RowOk w' S' ρ' H' r row:=by
  cases row with
  | cs ty esz es base fz =>
    obtain⟨h1,h2,h3,h4,U,cur,cap,mk,Y,h7,h8,h9,Q,J⟩:=h
    refine⟨h1,h2,h3,fun e=>by rw[u];exact z.hS _ (h4 e),fun e W=>U e (hn (u ▸ W)),cur,cap,mk,by rw[u,hg];exact Y,h7,h8,h9,Q,J.1,fun j x hj=>?_⟩
    obtain⟨c,hc,hr⟩:=J.2 j x hj
    exact⟨c,hc,hr.mono z⟩
  | mp es fz =>
    obtain⟨h4,U,Z,N,Y,h7,h8⟩:=h
    refine⟨fun e=>by rw[u];exact z.hS _ (h4 e),fun e W=>U e (hn (u ▸ W)),Z,N,by rw[u,hg];exact Y,h7,fun j k x hj=>?_⟩
    obtain⟨ent,a0,hk,hx⟩:=h8 j k x hj
    exact⟨ent,a0,hk.mono z.hw z.hS,hx.mono z⟩
  | lp st pd E ps ca cb =>
    obtain⟨h1,rec,hi,dr,h2,h3,h4,U,Y,h7,h8,h9,Q,J⟩:=h
    exact⟨fun W=>h1 (hn (u ▸ W)),rec,hi,dr,by rw[u,hg];exact h2,h3,h4,U,Y,h7,h8,h9,Q,fun n v hv=>let ⟨k1,k2,k3⟩:=J n v hv;⟨k1,k2,k3.mono z⟩⟩
theorem RowsTo.grow (J:Ok w S ρ β M)(hg:Gw w w' none)(Y:∀b,S b->S' b):RowsTo w S ρ M.H w' S' ρ M.H:=by
  have z:∀b,b<w.heap.size->w'.heap[b]? = w.heap[b]?:=fun b N=>hg.block b N (by simp)
  refine⟨fun b N=>z b (J.lt b N),Y,fun r ty esz es U W u=>?_,fun r es W u=>⟨rfl,es,W,u⟩,fun r st Z E ps ca cb u=>⟨rfl,st,Z,u⟩⟩
  have Q:=J.rlt (Ahq.1 u).1
  exact⟨es,U,W,u,Ahu _,Ahu _,fun b ver _ _ hA=>hA.same (fun b N=>z b (J.lt b N)) Y (z _ Q),fun _=>⟨rfl,fun cur mk h=>⟨cur,mk,by rw[z _ Q];exact h,rfl⟩⟩⟩
theorem Ok.grow (u:Ok w S ρ β M)(W:Gw w w' none)(hS:∀b,S b->S' b)(Y:∀b,S' b->S b\/w.heap.size<=b)(hl:∀b,S' b->b<w'.heap.size):
    Ok w' S' ρ β M/\Stp w S ρ β M w' S' ρ M.H:=by
  have J:=RowsTo.grow u W hS
  have N:∀b,b<w.heap.size->w'.heap[b]? = w.heap[b]?:=fun b U=>W.block b U (by simp)
  refine⟨⟨fun r row E=>?_,fun d cs Q=>?_,u.inj,u.bij,u.rb,fun d Q Z=>?_,hl⟩,J.stp (M:=M) (M':=M) W (by simp) (fun b U=>(Y b U).imp id .inl) fun r h=>.inl ⟨r,h,rfl⟩⟩
  · have z:=u.rlt (Ahq.1 E).1
    exact(u.rows r row E).same J rfl (N _ z) (fun Z=>(Y _ Z).resolve_right (by omega))
  · have z:=u.blt (d:=d) (by simp[Q])
    obtain⟨cur,T,hh,hr⟩:=u.boxes d cs Q
    exact⟨cur,T,by rw[N _ z];exact hh,hr.mono J⟩
  · have z:=u.blt Q
    exact u.bns d Q ((Y _ Z).resolve_right (by omega))
theorem Ok.newRow (z:Ok w S ρ β M)(hg:Gw w w' none)(hS:∀b,S b->S' b)(hn:∀b,S' b->S b\/w.heap.size<=b)(hl:∀b,S' b->b<w'.heap.size) 
    (hgn:w.heap.size<=g) (hrow:RowsTo w S ρ M.H w' S' (fun r=>if r=M.H.length then g else ρ r) (M.H++[row])->RowOk w' S' (fun r=>if r=M.H.length then g else ρ r) (M.H++[row]) M.H.length row) :
    Ok w' S' (fun r=>if r=M.H.length then g else ρ r) β { M with H:=M.H++[row] }/\Stp w S ρ β M w' S' (fun r=>if r=M.H.length then g else ρ r) (M.H++[row]):=by
  have old:∀b,b<w.heap.size->w'.heap[b]? = w.heap[b]?:=fun b hb=>hg.block b hb (by simp)
  have hA:=RowsTo.grow z hg hS
  have Q:∀r,r<M.H.length->(if r=M.H.length then g else ρ r)=ρ r:=fun r J=>Aht (by omega)
  have U:RowsTo w S ρ M.H w' S' (fun r=>if r=M.H.length then g else ρ r) (M.H++[row]):=by
    refine⟨hA.hw,hA.hS,fun r ty esz es W fz J=>?_,fun r es fz J=>?_,fun r st pd E ps ca cb J=>?_⟩
    · have u:=(Ahq.1 J).1
      obtain⟨es',Y,fz',h1,Z,h3,h4,h5⟩:=hA.cs r ty esz es W fz J
      exact⟨es',Y,fz',by rw[AhM u];exact h1,Z,h3,fun b ver a1 a2 a3=>by rw[Q r u];exact h4 b ver a1 a2 a3,fun e=>by rw[Q r u];exact h5 e⟩
    · have u:=(Ahq.1 J).1
      exact⟨Q r u,es,fz,by rw[AhM u];exact J⟩
    · have u:=(Ahq.1 J).1
      exact⟨Q r u,st,pd,by rw[AhM u];exact J⟩
  have hR:=hrow U
  have hgl:g<w'.heap.size:=by
    have N:∃o,w'.heap[g]? = some o:=by
      cases row with
      | cs ty esz es W fz=>obtain⟨_,_,_,_,_,cur,cap,mk,N,_⟩:=hR;exact⟨_,by simpa using N⟩
      | mp es fz=>obtain⟨_,_,ents,clock,N,_⟩:=hR;exact⟨_,by simpa using N⟩
      | lp st pd E ps ca cb=>obtain⟨_,rec,_,_,N,_⟩:=hR;exact⟨_,by simpa using N⟩
    obtain⟨o,N⟩:=N
    exact(AhY.1 N).1
  refine⟨⟨fun r row' J=>?_,fun d cs hd=>?_,fun r r' h1 Z e=>?_,z.bij,fun r d h1 Z e=>?_,fun d hd hs=>?_,hl⟩,U.stp (M:=M) (M':={ M with H:=M.H++[row] }) hg (by simp) (fun b hb=>(hn b hb).imp id .inl) fun r h=>(by
      by_cases c:r=M.H.length
      · exact .inr (by rw[Ahv c];exact hgn)
      · simp only[AhF,Aib,Aic]at h
        exact .inl ⟨r,by omega,Aht c⟩)⟩
  · by_cases u:r<M.H.length
    · simp only[AhM u]at J
      have hrl:=z.rlt u
      exact(z.rows r row' J).same U (Q r u) (old _ hrl) (fun hs=>(hn _ hs).resolve_right (by omega))
    · have hr2:=(Ahq.1 J).1
      simp only[AhF,Aib,Aic]at hr2
      have hre:r=M.H.length:=by omega
      subst hre
      simp at J
      subst J
      exact hR
  · have u:=z.blt (d:=d) (by simpa using (by rw[hd];rfl:(getB M.B d).isSome=true))
    obtain⟨cur,T,N,J⟩:=z.boxes d cs hd
    exact⟨cur,T,by rw[old _ u];exact N,J.mono U⟩
  · simp only[AhF,Aib,Aic]at h1 Z
    by_cases c1:r=M.H.length <;> by_cases c2:r'=M.H.length
    · omega
    · rw[Ahv c1,Aht c2]at e
      have:=z.rlt (r:=r') (by omega)
      omega
    · rw[Aht c1,Ahv c2]at e
      have:=z.rlt (r:=r) (by omega)
      omega
    · rw[Aht c1,Aht c2]at e
      exact z.inj r r' (by omega) (by omega) e
  · simp only[AhF,Aib,Aic]at h1
    by_cases c1:r=M.H.length
    · rw[Ahv c1]at e
      have:=z.blt Z
      omega
    · rw[Aht c1]at e
      exact z.rb r d (by omega) Z e
  · have u:=z.blt hd
    exact z.bns d hd ((hn _ hs).resolve_right (by omega))
theorem ZK {a b:Nat}(h:a≠b):Nat.beq a b=false:=by
  cases hb:Nat.beq a b with
  | true=>exact absurd (AhI hb) h
  | false=>rfl
theorem AM (B:LE)(d:Nat)(cs:List V)(k:Nat):getB (Ep B d cs) k=if k=d then some cs else getB B k:=by
  induction B with
  | nil =>
    simp only[Ep,getB]
    by_cases h:k=d
    · subst h;simp
    · rw[Aht h]
      have:Nat.beq d k=false:=ZK fun e=>h e.symm
      rw[this]
  | cons p r E =>
    obtain⟨a,x⟩:=p
    simp only[Ep]
    cases hab:Nat.beq a d with
    | true =>
      have u:=AhI hab
      subst u
      simp only[getB]
      by_cases h:k=a
      · subst h;simp
      · rw[Aht h]
        have:Nat.beq a k=false:=ZK fun e=>h e.symm
        rw[this]
    | false =>
      have u:a≠d:=Nat.ne_of_beq_eq_false hab
      cases Nat.blt d a with
      | true =>
        simp only[getB]
        by_cases h:k=d
        · subst h;simp
        · rw[Aht h]
          have:Nat.beq d k=false:=ZK fun e=>h e.symm
          rw[this]
      | false =>
      simp only[getB]
      cases hak:Nat.beq a k with
      | true =>
        have z:=AhI hak
        rw[Aht (by omega)]
      | false=>exact E
theorem SZ (B:LE)(n m:Nat)(x y:List V)(h:n≠m):Ep (Ep B n x) m y=Ep (Ep B m y) n x:=by
  have blt:∀a b:Nat,Nat.blt a b=decide (a<b):=fun a b=>by
    rw[Aio];simp[AiL]
  have u:∀a b:Nat,Nat.beq a b=decide (a=b):=fun a b=>by
    rw[Aio];simp[AhL]
  induction B with
  | nil =>
    simp only[Ep,blt,u]
    rcases Nat.lt_or_gt_of_ne h with E|E
    · have:¬m<n:=by omega
      simp[this,E,h,AiD h]
    · have:¬n<m:=by omega
      simp[this,E,h,AiD h]
  | cons p r U =>
    obtain⟨k,z⟩:=p
    simp only[Ep,blt,u]
    rcases Nat.lt_trichotomy n k with N|N|N <;> rcases Nat.lt_trichotomy m k with J|J|J <;> rcases Nat.lt_or_gt_of_ne h with Q|Q <;>
      first
        | (exfalso;omega)
        | (simp (disch:=omega) only [Ep,blt,u,AhA,AhB];done)
        | (simp (disch:=omega) only [Ep,blt,u,AhB,U];done)
variable {cs:List V} {cur:Array Value} {T:TypeId}
theorem Ok.newBox (z:Ok w S ρ β M)(hg:Gw w w' none)(hS:∀b,S b->S' b)(hn:∀b,S' b->S b\/w.heap.size<=b)(hl:∀b,S' b->b<w'.heap.size){d:Nat} 
    (hgn:w.heap.size<=g) (a0:¬S' g) (U:w'.heap[g]? = some (.cells cur T (0,0))) (hr:RepL w S ρ M.H cs cur.toList) :
    Ok w' S' ρ (fun k=>if k=d then g else β k) { M with B:=Ep M.B d cs }/\Stp w S ρ β M w' S' ρ M.H:=by
  obtain⟨u,W⟩:=z.grow hg hS hn hl
  refine⟨⟨u.rows,fun k a1 J=>?_,u.inj,fun k k' N E e=>?_,fun r k N E e=>?_,fun k J Z=>?_,hl⟩,W⟩
  · simp only[AM]at J
    by_cases h:k=d
    · rw[Ahv h]at J
      cases J
      rw[Ahv h]
      exact⟨cur,T,U,W.list hr⟩
    · rw[Aht h]at J
      rw[Aht h]
      exact u.boxes k a1 J
  · simp only[AM]at N E
    by_cases Y:k=d <;> by_cases Q:k'=d
    · omega
    · rw[Ahv Y,Aht Q]at e
      rw[Aht Q]at E
      have:=z.blt E
      omega
    · rw[Aht Y,Ahv Q]at e
      rw[Aht Y]at N
      have:=z.blt N
      omega
    · rw[Aht Y,Aht Q]at e
      rw[Aht Y]at N
      rw[Aht Q]at E
      exact z.bij k k' N E e
  · simp only[AM]at E
    by_cases c:k=d
    · rw[Ahv c]at e
      have:=z.rlt N
      omega
    · rw[Aht c]at e E
      exact z.rb r k N E e
  · simp only[AM]at J
    by_cases c:k=d
    · rw[Ahv c]at Z;exact a0 Z
    · rw[Aht c]at J Z
      exact u.bns k J Z
theorem Ok.setBox (z:Ok w S ρ β M){d:Nat}(W:(getB M.B d).isSome)(hg:Gw w w' (some (β d))) 
    (hcur:w'.heap[β d]? = some (.cells cur T (0,0))) (hr:RepL w S ρ M.H cs cur.toList) :
    Ok w' S ρ β { M with B:=Ep M.B d cs }/\Stp w S ρ β M w' S ρ M.H:=by
  have Y:∀b,b<w.heap.size->b≠β d->w'.heap[b]? = w.heap[b]?:=fun b U hne=>hg.block b U (by simpa using hne)
  have hst:∀b,S b->w'.heap[b]? = w.heap[b]?:=fun b U=>Y b (z.lt b U) (fun e=>z.bns d W (e ▸ U))
  have Z:∀r,r<M.H.length->w'.heap[ρ r]? = w.heap[ρ r]?:=fun r hr=>Y _ (z.rlt hr) (z.rb r d hr W)
  have Q:RowsTo w S ρ M.H w' S ρ M.H:=by
    refine⟨hst,fun _ h=>h,fun r ty esz es base fz u=>?_,fun r es fz u=>⟨rfl,es,fz,u⟩,fun r st pd E ps ca cb u=>⟨rfl,st,pd,u⟩⟩
    have N:=(Ahq.1 u).1
    exact⟨es,base,fz,u,Ahu _,Ahu _,fun b ver _ _ hA=>hA.same hst (fun _ h=>h) (Z r N),fun _=>⟨rfl,fun cur mk h=>⟨cur,mk,by rw[Z r N];exact h,rfl⟩⟩⟩
  refine⟨⟨fun r row u=>?_,fun k cs' J=>?_,z.inj,fun k k' h1 h2 e=>?_,fun r k h1 h2 e=>?_,fun k J hs=>?_,fun b U=>AiR (z.lt b U) hg.size⟩,
    Q.stp (M:=M) (M':=M) hg (fun b e=>.inr ⟨d,W,by simpa using e.symm⟩) (fun b U=>.inl U) fun r h=>.inl ⟨r,h,rfl⟩⟩
  · have N:=(Ahq.1 u).1
    exact(z.rows r row u).same Q rfl (Z r N) id
  · simp only[AM]at J
    by_cases h:k=d
    · subst h
      rw[Ahv rfl]at J
      cases J
      exact⟨cur,T,hcur,hr.mono Q⟩
    · rw[Aht h]at J
      obtain⟨cur',T',hh,hr'⟩:=z.boxes k cs' J
      have hkl:=z.blt (d:=k) (by simp[J])
      exact⟨cur',T',by rw[Y _ hkl (fun e=>h (z.bij k d (by simp[J]) W e))];exact hh,hr'.mono Q⟩
  · simp only[AM]at h1 h2
    refine z.bij k k' ?_ ?_ e
    · by_cases c:k=d
      · subst c;exact W
      · rwa[Aht c]at h1
    · by_cases c:k'=d
      · subst c;exact W
      · rwa[Aht c]at h2
  · simp only[AM]at h2
    refine z.rb r k h1 ?_ e
    by_cases c:k=d
    · subst c;exact W
    · rwa[Aht c]at h2
  · simp only[AM]at J
    refine z.bns k ?_ hs
    by_cases c:k=d
    · subst c;exact W
    · rwa[Aht c]at J
theorem Ok.setRow (u:Ok w S ρ β M){r:Nat}{row':Row}(Y:M.H[r]? = some row)(hg:Gw w w' (some (ρ r))) 
    (hgg:g=ρ r\/w.heap.size<=g)
    (hS:∀b,S b->S' b) (hn:∀b,S' b->S b\/b=ρ r) (hSw:∀b,S b->w'.heap[b]? = w.heap[b]?)
    (hcs:∀ty U es base fz,row=.cs ty U es base fz -> ∃es' N Q,row'=.cs ty U es' N Q/\es.length<=es'.length/\base<=N /\
      (∀b ver,ver<=es.length->N<=ver->At w S (ρ r) b ver U es.length->At w' S' g b ver U es'.length) /\
      (es'.length=es.length->g=ρ r /\ ∀cur mk,w.heap[ρ r]? = some (.cells cur ty mk) -> ∃cur' mk',w'.heap[ρ r]? = some (.cells cur' ty mk')/\cur'.size=cur.size))
    (hmp:∀es fz,row=.mp es fz->g=ρ r /\ ∃es' Q,row'=.mp es' Q)
    (hro:RowsTo w S ρ M.H w' S' (fun k=>if k=r then g else ρ k) (M.H.set r row')->RowOk w' S' (fun k=>if k=r then g else ρ k) (M.H.set r row') r row')
    (hlp:∀st pd E ps ca cb,row=.lp st pd E ps ca cb->g=ρ r /\ ∃st' pd',row'=.lp st' pd' E ps ca cb:=by intro _ _ _ _ _ _ h;cases h) :
    Ok w' S' (fun k=>if k=r then g else ρ k) β { M with H:=M.H.set r row' }/\Stp w S ρ β M w' S' (fun k=>if k=r then g else ρ k) (M.H.set r row'):=by
  have z:=(Ahq.1 Y).1
  have old:∀b,b<w.heap.size->b≠ρ r->w'.heap[b]? = w.heap[b]?:=fun b hb a0=>hg.block b hb (by simpa using a0)
  have hrw:∀k,k<M.H.length->k≠r->w'.heap[ρ k]? = w.heap[ρ k]?:=fun k J a0=>old _ (u.rlt J) (fun e=>a0 (u.inj k r J z e))
  have hto:RowsTo w S ρ M.H w' S' (fun k=>if k=r then g else ρ k) (M.H.set r row'):=by
    refine⟨hSw,hS,fun k ty U es base fz J=>?_,fun k es fz J=>?_,fun k st pd E ps ca cb J=>?_⟩
    · have W:=(Ahq.1 J).1
      by_cases c:k=r
      · subst c
        rw[Y]at J
        obtain⟨es',N,Q,h1,Z,h3,h4,h5⟩:=hcs ty U es base fz (Aiw J)
        refine⟨es',N,Q,by simp[z,h1],Z,h3,fun b ver a1 a2 a3=>by rw[Ahv rfl];exact h4 b ver a1 a2 a3,fun e=>by rw[Ahv rfl];exact h5 e⟩
      · refine⟨es,base,fz,by rw[Ait (AiD c)];exact J,Ahu _,Ahu _,fun b ver _ _ hA=>?_,fun _=>?_⟩
        · rw[Aht c];exact hA.same hSw hS (hrw k W c)
        · rw[Aht c];exact⟨rfl,fun cur mk h=>⟨cur,mk,by rw[hrw k W c];exact h,rfl⟩⟩
    · by_cases c:k=r
      · subst c
        rw[Y]at J
        obtain⟨h1,es',Q,Z⟩:=hmp es fz (Aiw J)
        exact⟨by rw[Ahv rfl];exact h1,es',Q,by simp[z,Z]⟩
      · exact⟨by rw[Aht c],es,fz,by rw[Ait (AiD c)];exact J⟩
    · by_cases c:k=r
      · subst c
        rw[Y]at J
        obtain⟨h1,st',pd',Z⟩:=hlp st pd E ps ca cb (Aiw J)
        exact⟨by rw[Ahv rfl];exact h1,st',pd',by simp[z,Z]⟩
      · exact⟨by rw[Aht c],st,pd,by rw[Ait (AiD c)];exact J⟩
  have hR:=hro hto
  have hgl:g<w'.heap.size:=by
    have hh:∃o,w'.heap[g]? = some o:=by
      cases row' with
      | cs ty U es base fz=>obtain⟨_,_,_,_,_,cur,cap,mk,hh,_⟩:=hR;exact⟨_,by simpa using hh⟩
      | mp es fz=>obtain⟨_,_,ents,clock,hh,_⟩:=hR;exact⟨_,by simpa using hh⟩
      | lp st pd E ps ca cb=>obtain⟨_,rec,_,_,hh,_⟩:=hR;exact⟨_,by simpa using hh⟩
    obtain⟨o,hh⟩:=hh
    exact(AhY.1 hh).1
  have a0:∀k,k<M.H.length->k≠r->g≠ρ k:=fun k J hkr e=>by
    rcases hgg with h|h
    · exact hkr (u.inj k r J z (by omega))
    · have:=u.rlt J;omega
  refine⟨⟨fun k row'' J=>?_,fun d cs hd=>?_,fun k k' h1 Z e=>?_,u.bij,fun k d h1 Z e=>?_,fun d hd hs=>?_,fun b hb=>?_⟩,
    hto.stp (M:=M) (M':={ M with H:=M.H.set r row' }) hg (fun b e=>.inl ⟨r,z,by simpa using e.symm⟩) (fun b hb=>(hn b hb).imp id fun e=>.inr ⟨r,z,e⟩) fun k h=>(by
      simp only[Aim]at h
      by_cases c:k=r
      · rcases hgg with e|e
        · exact .inl ⟨r,z,by rw[Ahv c];exact e⟩
        · exact .inr (by rw[Ahv c];exact e)
      · exact .inl ⟨k,h,Aht c⟩)⟩
  · by_cases c:k=r
    · subst c
      simp[z]at J
      subst J
      exact hR
    · simp only[Ait (AiD c)]at J
      have W:=(Ahq.1 J).1
      exact(u.rows k row'' J).same hto (Aht c) (hrw k W c) (fun hs=>(hn _ hs).resolve_right (fun e=>c (u.inj k r W z e)))
  · have W:=u.blt (d:=d) (by simpa using (by rw[hd];rfl:(getB M.B d).isSome=true))
    obtain⟨cur,T,hh,hr⟩:=u.boxes d cs hd
    refine⟨cur,T,by rw[old _ W (fun e=>u.rb r d z (by simpa using (by rw[hd];rfl:(getB M.B d).isSome=true)) e.symm)];exact hh,hr.mono hto⟩
  · simp only[Aim]at h1 Z
    by_cases c1:k=r <;> by_cases c2:k'=r
    · omega
    · rw[Ahv c1,Aht c2]at e
      exact absurd e (a0 k' Z c2)
    · rw[Aht c1,Ahv c2]at e
      exact absurd e.symm (a0 k h1 c1)
    · rw[Aht c1,Aht c2]at e
      exact u.inj k k' h1 Z e
  · simp only[Aim]at h1
    by_cases c:k=r
    · rw[Ahv c]at e
      rcases hgg with h|h
      · exact u.rb r d z Z (by omega)
      · have:=u.blt Z;omega
    · rw[Aht c]at e
      exact u.rb k d h1 Z e
  · rcases hn _ hs with h|h
    · exact u.bns d hd h
    · exact u.rb r d z hd h.symm
  · rcases hn _ hb with h|h
    · exact AiR (u.lt b h) hg.size
    · rw[h];exact AiR (u.rlt z) hg.size
end
end Go.Mx
namespace Go.Mx
theorem Ir (lo hi:Nat)(n:Int):inR lo hi n=true ↔ -(lo:Int)<=n/\n<=hi:=by
  cases n with
  | ofNat m=>simp only[inR,Aid,Int.ofNat_eq_natCast];omega
  | negSucc m=>simp only[inR,AiL];omega
theorem Aau (k:IntKind)(n:Int)(h:okK k n=true):k.wrap n=n:=by
  cases k <;> simp only[okK,Ir]at h <;> simp[IntKind.wrap,IntKind.bits,IntKind.signed] <;> omega
theorem Gu (k:IntKind)(n:Int):wr k n=k.wrap n:=by
  unfold wr
  cases h:okK k n with
  | true=>exact(Aau k n h).symm
  | false=>rfl
theorem CX (a b:Int):ltI a b=decide (a<b):=by
  rw[Aio]
  cases a <;> cases b <;> simp[ltI,AiL] <;> omega
theorem DY (a b:Int):eqI a b=(a==b):=by
  rw[Aio]
  cases a <;> cases b <;> simp[eqI,AhL] <;> omega
theorem Hf (a b:Int):leI a b=decide (a<=b):=by
  rw[leI,CX,Aio]
  simp
theorem ZF (a b:IntKind):eqK a b=true↔a=b:=by cases a <;> cases b <;> simp[eqK]
theorem PP (k:IntKind):Mz k=k.bits:=by cases k <;> rfl
theorem Tt (k:IntKind):Nt k=2 ^ k.bits:=by cases k <;> rfl
theorem FD (k:IntKind)(n:Int):Gr k n=(BitVec.ofInt k.bits n).toNat:=by
  rw[BitVec.toNat_ofInt]
  have z:(Nt k:Int)=((2 ^ k.bits:Nat):Int):=by rw[Tt]
  have u:0<Nt k:=by cases k <;> decide
  rw[<-z]
  cases n with
  | ofNat m =>
    simp only[Gr]
    show _=((m:Int)%(Nt k:Int)).toNat
    rw[<-Int.natCast_emod,Int.toNat_natCast]
  | negSucc m =>
    simp only[Gr]
    have E:Int.negSucc m%(Nt k:Int)=(Nt k:Int)-1-((m%Nt k:Nat):Int):=by
      rw[Int.negSucc_emod m (by omega)]
      push_cast
      omega
    rw[E]
    have J:m%Nt k<Nt k:=Nat.mod_lt _ u
    omega
theorem Iz (a b:List Nat):eqL a b=decide (a=b):=by
  induction a generalizing b with
  | nil=>cases b <;> simp[eqL]
  | cons x a u =>
    cases b with
    | nil=>simp[eqL]
    | cons y b =>
      simp only[eqL,u]
      rw[Aio]
      simp[AhL]
theorem Cp {a b:List UInt8}:a.map UInt8.toNat=b.map UInt8.toNat↔a=b:=by
  constructor
  · intro h
    exact(List.map_inj_right (fun _ _ h=>UInt8.toNat_inj.1 h)).1 h
  · rintro rfl;rfl
theorem LU (a b:List UInt8):ltL (a.map UInt8.toNat) (b.map UInt8.toNat)=Op.bytesLess a b:=by
  induction a generalizing b with
  | nil=>cases b <;> simp[ltL,Op.bytesLess]
  | cons x a u =>
    cases b with
    | nil=>simp[ltL,Op.bytesLess]
    | cons y b =>
      simp only[AhV,ltL,Op.bytesLess,u]
      have z:Nat.blt x.toNat y.toNat=decide (x<y):=by
        rw[Aio];simp[AiL,UInt8.lt_iff_toNat_lt]
      have E:Nat.beq x.toNat y.toNat=(x==y):=by
        rw[Aio];simp[AhL,UInt8.toNat_inj]
      rw[z,E]
variable {P:Program}
theorem NC (w:World)(t:TypeId)(k:IntKind)(x y:Int)(op:BinOp)(v:V)(hs:op ≠ .shl)(z:op ≠ .shr)(h:arX op k x y=some v):
    ∃c,(binOp op t (.int k x) (.int k y)).run P w=.ok c w /\ ∃i,v=.m i/\RepI w (fun _=>False) i c:=by
  cases op <;> simp only[arX,vi,vb,Ag,Aho,reduceCtorEq]at h <;> first|contradiction|skip
  case add=>exact⟨.int k (k.wrap (x+y)),by simp[binOp,Op.intArith],_,h.symm,by rw[Gu];exact .i _ _⟩
  case sub=>exact⟨.int k (k.wrap (x-y)),by simp[binOp,Op.intArith],_,h.symm,by rw[Gu];exact .i _ _⟩
  case mul=>exact⟨.int k (k.wrap (x*y)),by simp[binOp,Op.intArith],_,h.symm,by rw[Gu];exact .i _ _⟩
  case quo =>
    have u:y≠0:=by have:=h.1;rw[DY]at this;simpa using this
    exact⟨.int k (k.wrap (x.tdiv y)),by simp[binOp,Op.intDiv,u],_,h.2.symm,by rw[Gu];exact .i _ _⟩
  case rem =>
    have u:y≠0:=by have:=h.1;rw[DY]at this;simpa using this
    exact⟨.int k (x.tmod y),by simp[binOp,Op.intDiv,u],_,h.2.symm,.i _ _⟩
  case eql=>exact⟨.bool (x==y),by simp[binOp,Op.intCmp],_,h.symm,by rw[DY];exact .b _⟩
  case neq=>exact⟨.bool (x != y),by simp[binOp,Op.intCmp],_,h.symm,by rw[DY];exact .b _⟩
  case lss=>exact⟨.bool (x<y),by simp[binOp,Op.intCmp],_,h.symm,by rw[CX];exact .b _⟩
  case leq=>exact⟨.bool (x<=y),by simp[binOp,Op.intCmp],_,h.symm,by rw[Hf];exact .b _⟩
  case gtr=>exact⟨.bool (x > y),by simp[binOp,Op.intCmp],_,h.symm,by rw[CX];exact .b _⟩
  case geq=>exact⟨.bool (x>=y),by simp[binOp,Op.intCmp],_,h.symm,by rw[Hf];exact .b _⟩
  case and=>exact⟨_,by simp only[binOp,ne_eq,not_true_eq_false,if_false];rfl,_,h.symm,by rw[Gu,FD,FD];exact .i _ _⟩
  case or=>exact⟨_,by simp only[binOp,ne_eq,not_true_eq_false,if_false];rfl,_,h.symm,by rw[Gu,FD,FD];exact .i _ _⟩
  case xor=>exact⟨_,by simp only[binOp,ne_eq,not_true_eq_false,if_false];rfl,_,h.symm,by rw[Gu,FD,FD];exact .i _ _⟩
theorem LF (n:Nat):Int.ofNat (Nat.pow 2 n)=(2:Int) ^ n:=by
  show ((2 ^ n:Nat):Int)=_
  push_cast
  rfl
theorem FV (w:World)(t:TypeId)(k E:IntKind)(x:Int)(y:Nat)(op:BinOp)(v:V)(u:op=.shl\/op=.shr)(h:shX op k x y=some v):
    ∃c,(binOp op t (.int k x) (.int E y)).run P w=.ok c w /\ ∃i,v=.m i/\RepI w (fun _=>False) i c:=by
  have z:¬(y:Int)<0:=by omega
  rcases u with rfl|rfl
  · simp only[shX,vi,Aho]at h
    refine⟨.int k (k.wrap (x*2 ^ min y k.bits)),by simp[binOp,Op.shift,z],_,h.symm,?_⟩
    rw[Gu,PP,LF];exact .i _ _
  · simp only[shX,vi,Aho]at h
    refine⟨.int k (x.fdiv (2 ^ min y k.bits)),by simp[binOp,Op.shift,z],_,h.symm,?_⟩
    rw[PP,LF];exact .i _ _
theorem NX (a b:ByteArray):(a++b).data=a.data++b.data:=by simp
theorem NB (w:World)(t:TypeId)(x y:ByteArray)(op:BinOp)(v:V)(h:stX op (x.data.toList.map UInt8.toNat) (y.data.toList.map UInt8.toNat)=some v):
    ∃c,(binOp op t (.string x) (.string y)).run P w=.ok c w /\ ∃i,v=.m i/\RepI w (fun _=>False) i c:=by
  have u:∀z:ByteArray,z.toList=z.data.toList:=ByteArray.toList_eq
  have E:(x.toList==y.toList)=decide (x.data.toList=y.data.toList):=by rw[u,u,Aio];simp
  cases op <;> simp only[stX,vb,Ag,Aho,reduceCtorEq]at h <;> first|contradiction|skip
  case add =>
    have J:¬((x.size+y.size:Nat):Int) > IntKind.i64.max:=by
      have:=h.1
      simp only[Aid,AhD,Aih]at this
      have Q:x.size=x.data.size:=rfl
      have N:y.size=y.data.size:=rfl
      simp only[IntKind.max_i64]
      omega
    refine⟨.string (x++y),by simp only[binOp,Op.stringOp,Aht J];rfl,_,h.2.symm,?_⟩
    refine .s _ _ ?_
    rw[NX];simp
  case eql=>exact⟨.bool (x.toList==y.toList),by simp[binOp,Op.stringOp],_,h.symm,by rw[Iz,E];simp only[Cp];exact .b _⟩
  case neq=>exact⟨.bool (!(x.toList==y.toList)),by simp[binOp,Op.stringOp],_,h.symm,by rw[Iz,E];simp only[Cp];exact .b _⟩
  case lss=>exact⟨.bool (Op.bytesLess x.toList y.toList),by simp[binOp,Op.stringOp],_,h.symm,by rw[LU,u,u];exact .b _⟩
  case leq=>exact⟨.bool (Op.bytesLess x.toList y.toList||x.toList==y.toList),by simp[binOp,Op.stringOp],_,h.symm,by rw[LU,Iz,E,u,u];simp only[Cp];exact .b _⟩
  case gtr=>exact⟨.bool (!(Op.bytesLess x.toList y.toList||x.toList==y.toList)),by simp[binOp,Op.stringOp],_,h.symm,by rw[LU,Iz,E,u,u];simp only[Cp];exact .b _⟩
  case geq=>exact⟨.bool (!Op.bytesLess x.toList y.toList),by simp[binOp,Op.stringOp],_,h.symm,by rw[LU,u,u];exact .b _⟩
theorem Aey {S:Nat->Prop}(w:World)(op:UnOp)(x:V)(c:Value)(v:V)(i:I)(E:x=.m i)(J:RepI w S i c)(h:unX op x=some v):
    ∃z,(Op.unary op c).run P w=.ok z w /\ ∃j,v=.m j/\RepI w (fun _=>False) j z:=by
  subst E
  cases J with
  | b x =>
    cases op <;> simp only[unX,vb,Aho,reduceCtorEq]at h
    exact⟨.bool (!x),by simp[Op.unary],_,h.symm,.b _⟩
  | i k n =>
    cases op <;> simp only[unX,vi,Aho,reduceCtorEq]at h
    case neg=>exact⟨.int k (k.wrap (0-n)),by simp[Op.unary,Op.intArith],_,h.symm,by rw[Gu];exact .i _ _⟩
    case xor =>
      refine⟨.int k (bits .xor k (if k.signed then -1 else k.max) n),rfl,_,h.symm,?_⟩
      rw[Gu]
      have:bits .xor k (if k.signed then -1 else k.max) n=k.wrap (Int.ofNat (Nt k-1-Gr k n)):=by
        have u:BitVec.ofInt k.bits (if k.signed then -1 else k.max)=BitVec.allOnes k.bits:=by cases k <;> decide
        show k.wrap ((BitVec.ofInt k.bits (if k.signed then -1 else k.max) ^^^ BitVec.ofInt k.bits n).toNat:Int)=_
        rw[u,BitVec.allOnes_xor,BitVec.toNat_not,FD,Tt]
        rfl
      rw[this]
      exact .i _ _
  | _=>cases op <;> simp[unX]at h
end Go.Mx
namespace Go.Mx
def RepX (w:World)(S:Nat->Prop)(ρ β:Nat->Nat)(H:Hp)(v:V)(c:Value):Prop:=match v with
  | .fa d off=>c=.pointer (some ⟨β d,off,none⟩)
  | v=>RepV w S ρ H v c
inductive All2 {α β:Type} (R:α->β->Prop):List α->List β->Prop where
  | nil:All2 R [] []
  | cons {a:α} {b:β} {l:List α} {m:List β} (h:R a b) (t:All2 R l m):All2 R (a::l) (b::m)
def dof:O->Option Nat
  | .l (.alp d _)=>some d
  | .l (.bxp d _)=>some d
  | _=>none
def Outc (w:World)(S:Nat->Prop)(ρ β:Nat->Nat)(M:Mem)(o:O)(v:V)(M':Mem)(r:Result Next):Prop :=
  ∃nx c w' S' ρ' β',r=.ok nx w'/\(nx=.value c\/(nx=.skip/\c=undef))/\Ok w' S' ρ' β' M'/\Stp w S ρ β M w' S' ρ' M'.H/\RepX w' S' ρ' β' M'.H v c/\(∀d,dof o≠some d->β' d=β d) /\ ∀d,(getB M'.B d).isSome->(∃q,(getB M.B q).isSome/\β' d=β q)\/w.heap.size<=β' d
section
variable {P:Program} {w:World} {S:Nat->Prop} {ρ β:Nat->Nat} {M:Mem} {H:Hp}
variable {v:V} {c:Value}
theorem RepX.ofV (h:RepV w S ρ H v c):RepX w S ρ β H v c:=by
  cases v <;> first|exact h|cases h
theorem RepX.toV (u:Az v=true)(h:RepX w S ρ β H v c):RepV w S ρ H v c:=by
  cases v <;> first|exact h|simp[Az]at u
variable {l:List V}
theorem RepX.cells (h:RepX w S ρ β H v c)(hl:AA v=some l):RepL w S ρ H l c.cells.toList:=by
  cases v <;> first|exact RepV.cells h hl|simp[AA]at hl
theorem RepI.any {i:I}(h:RepI w (fun _=>False) i c):RepI w S i c:=h.mono (fun _ h=>h.elim) (fun _ h=>h.elim)
theorem Outc.val {o:O}{r:Result Next}(u:Ok w S ρ β M)(h:RepX w S ρ β M.H v c)(E:r=.ok (.value c) w):Outc w S ρ β M o v M r :=
  ⟨_,c,w,S,ρ,β,E,.inl rfl,u,Stp.refl _ _ _ _ _,h,fun _ _=>rfl,fun d z=>.inl ⟨d,z,rfl⟩⟩
variable {α:Type}
theorem All2.inv1 {β:Type}{R:α->β->Prop}{a:α}{m:List β}(h:All2 R [a] m):∃b,m=[b]/\R a b:=by
  cases h with|cons h t=>cases t;exact⟨_,rfl,h⟩
theorem All2.inv2 {β:Type}{R:α->β->Prop}{a z:α}{m:List β}(h:All2 R [a,z] m):∃b u,m=[b,u]/\R a b/\R z u:=by
  cases h with|cons h t=>obtain⟨u,rfl,E⟩:=t.inv1;exact⟨_,_,rfl,h,E⟩
theorem All2.inv3 {β:Type}{R:α->β->Prop}{a N z:α}{m:List β}(h:All2 R [a,N,z] m):∃b E u,m=[b,E,u]/\R a b/\R N E/\R z u:=by
  cases h with|cons h t=>obtain⟨E,u,rfl,Q,J⟩:=t.inv2;exact⟨_,_,_,rfl,h,Q,J⟩
theorem All2.length {β:Type}{R:α->β->Prop}{l:List α}{m:List β}(h:All2 R l m):l.length=m.length:=by
  induction h with|nil=>rfl|cons _ _ u=>simp[u]
variable {cs:List Value}
theorem All2.toL {vs:List V}(u:vs.all Az=true)(h:All2 (RepX w S ρ β H) vs cs):RepL w S ρ H vs cs:=by
  induction h with
  | nil=>exact .nil
  | cons h t z=>simp only[List.all_cons,Ahs]at u;exact .cons (h.toV u.1) (z u.2)
theorem SI (h:toV c=some v):RepV w S ρ H v c:=by
  unfold toV at h
  split at h <;> first|contradiction|(simp only[Aho]at h;subst h)
  · exact .m (.b _)
  · exact .m (.i _ _)
  · exact .m (.s _ _ rfl)
  · exact .m .nlp
  · exact .m .nlm
  · exact .m .nlf
  · exact .m .nli
  · exact .m .nls
theorem OS:∀ {cs:List Value} {vs:List V},Ah toV cs=some vs->RepL w S ρ H vs cs
  | [],vs,h=>by simp[Ah]at h;subst h;exact .nil
  | c::cs,vs,h=>by
    simp only[Ah,Ahn,Aho]at h
    obtain⟨x,u,l,hl,rfl⟩:=h
    exact .cons (SI u) (OS hl)
variable {t:TypeId}
theorem CG {zs:List V}(h:Dw P t=some zs):∃i z,P.info? t=some i/\i.zero=some z/\z.cells.size=i.size/\zs.length=i.size /\ ∀(w:World) S ρ H,RepL w S ρ H zs z.cells.toList:=by
  simp only[Dw,Ahn,Ag,AhL]at h
  obtain⟨i,hi,z,J,E,N⟩:=h
  have u:=fun(w:World) S ρ H=>OS (w:=w) (S:=S) (ρ:=ρ) (H:=H) N
  refine⟨i,z,hi,J,E,?_,u⟩
  have:=(u default (fun _=>False) id []).1
  simp at this
  omega
theorem AP {s:Nat}:BD P t=some s ↔ ∃i,P.info? t=some i/\i.size=s:=by simp[BD,Ahn]
theorem IG {s:Nat}:JJ P t=some s ↔ ∃i,P.info? t=some i/\i.bytes=s:=by simp[JJ,Ahn]
variable {i:TypeInfo}
theorem AR (hi:P.info? t=some i)(w:World):(sizeOf t).run P w=.ok i.size w:=by simp[sizeOf,typeInfo,hi]
theorem Lw (hi:P.info? t=some i)(w:World):(typeInfo t).run P w=.ok i w:=by simp[typeInfo,hi]
theorem Br {z:Value}(hi:P.info? t=some i)(u:i.zero=some z)(w:World):(zeroValue t).run P w=.ok z w:=by simp[zeroValue,typeInfo,hi,u]
variable {ag:Bool}
theorem DP (h:Cl P t=some ag)(w:World):(isAgg t).run P w=.ok ag w:=by
  simp only[Cl,Ahn]at h
  obtain⟨d,u,h⟩:=h
  simp only[isAgg,Sem.run_bind,run_underlying u,Result.andThen_ok]
  cases d <;> simp at h <;> subst h <;> rfl
variable {xs:List V}
theorem SK {n:Nat}(h:RepL w S ρ H xs cs)(u:Dx n xs=some l):RepL w S ρ H l (cs.take n)/\(cs.take n).length=n:=by
  simp only[Dx,Ag,AhL,Aho]at u
  obtain⟨E,rfl⟩:=u
  have z:=h.take n
  exact⟨z,by have:=z.1;omega⟩
theorem FQ {cs:Array Value}(h:RepL w S ρ H l cs.toList)(u:DF ag l=some v):
    (ag=true/\RepV w S ρ H v (.agg cs))\/(ag=false /\ ∃c,cs=#[c]/\RepV w S ρ H v c):=by
  cases ag with
  | true=>simp only[DF,Aho]at u;subst u;exact .inl ⟨rfl,h.mkAg⟩
  | false =>
    simp only[DF]at u
    split at u
    · rename_i x
      simp only[Aho]at u
      subst u
      obtain⟨c,r,z,E,J⟩:=h.inv_cons
      have:=J.inv_nil
      subst this
      refine .inr ⟨rfl,c,?_,E⟩
      obtain⟨l⟩:=cs
      simp at z
      simp[z]
    · cases u
theorem WU (z:Cl P t=some ag)(hi:P.info? t=some i)(hs:ag=true\/i.size=1){cs:Array Value}{off:Nat} 
    (h:RepL w S ρ H xs cs.toList) (Y:Dx i.size (xs.drop off)=some l) (Z:DF ag l=some v) :
    ∃c,(part t cs off).run P w=.ok c w/\RepV w S ρ H v c:=by
  obtain⟨U,h2⟩:=SK (h.drop off) Y
  have Q:RepL w S ρ H l (cs.extract off (off+i.size)).toList:=by
    have:(cs.extract off (off+i.size)).toList=(cs.toList.drop off).take i.size:=by simp[List.take_drop]
    rw[this];exact U
  rcases FQ Q Z with ⟨rfl,E⟩|⟨rfl,c,W,E⟩
  · exact⟨_,by simp[part,DP z,AR hi],E⟩
  · refine⟨c,?_,E⟩
    have J:i.size=1:=by rcases hs with h|h;cases h;exact h
    have u:cs[off]? = some c:=by
      have N:(cs.extract off (off+i.size))[0]? = some c:=by rw[W];rfl
      rw[J]at N
      exact(by simpa[Array.getElem?_extract]using N:_/\_).2
    simp[part,DP z,u]
end
end Go.Mx
namespace Go.Mx
section
variable {P:Program} {w:World} {S:Nat->Prop} {ρ β:Nat->Nat} {M:Mem} {H:Hp} {o:Oper} {a:Act} {hi:Hint} {vs:List V} {v:V}
variable {k:IntKind} {c:Value}
theorem Cc {n:Int}(h:RepV w S ρ H (.m (.i k n)) c):c=.int k n:=by have:=h.imm;cases this;rfl
theorem CH {b:Bool}(h:RepV w S ρ H (.m (.b b)) c):c=.bool b:=by have:=h.imm;cases this;rfl
theorem Ej {l:List Nat}(h:RepV w S ρ H (.m (.s l)) c):∃s:ByteArray,c=.string s/\s.data.toList.map UInt8.toNat=l:=by have:=h.imm;cases this;exact⟨_,rfl,‹_›⟩
variable {x:Operand}
theorem Zo {op:OP}(u:o.op=.move x\/o.op=.assign x)(E:Ok w S ρ β M)(z:op=.mv)(N:All2 (RepX w S ρ β M.H) vs [a.eval x])(J:Ar op vs=some v):
    Outc w S ρ β M (.p op) v M ((execOp a.eval o).run P w):=by
  subst z
  cases N with|cons h t =>
  cases t
  simp only[Ar,Aho]at J
  subst J
  refine .val E h ?_
  rcases u with u|u <;> simp[execOp,u]
abbrev S4 (o:Oper)(a:Act)(P:Program)(w:World)(S:Nat->Prop)(ρ β:Nat->Nat)(M:Mem)(vs:List V)(v:V)(q:OP)(es:List Value):Prop:=Ok w S ρ β M->All2 (RepX w S ρ β M.H) vs es->Ar q vs=some v->Outc w S ρ β M (.p q) v M ((execOp a.eval o).run P w)
variable {y:Operand}
theorem WF {c:Operand}(J:o.op=.pick c x y):S4 o a P w S ρ β M vs v .pick [a.eval c,a.eval x,a.eval y]:=fun z N u=>by
  cases N with|cons h t =>
  cases t with|cons U t =>
  cases t with|cons Q t =>
  cases t
  simp only[Ar]at u
  split at u
  · simp only[Aho]at u
    subst u
    have E:a.eval c=.bool true:=CH h
    exact .val z U (by simp[execOp,J,E,asBool])
  · simp only[Aho]at u
    subst u
    have E:a.eval c=.bool false:=CH h
    exact .val z Q (by simp[execOp,J,E,asBool])
  · cases u
variable {t:TypeId}
theorem Aev {u:UnOp}(U:o.op=.unOp u t x):S4 o a P w S ρ β M vs v (.un u) [a.eval x]:=fun E Q z=>by
  cases Q with|cons h t =>
  cases t
  rename_i J
  simp only[Ar]at z
  obtain⟨i,rfl⟩:∃i,J=.m i:=by cases J <;> first|exact⟨_,rfl⟩|(simp[unX]at z)
  obtain⟨Y,W,j,rfl,N⟩:=Aey (P:=P) w u (.m i) _ v i rfl (RepV.imm h) z
  exact .val E (RepX.ofV (.m N.any)) (by simp[execOp,U,W])
theorem SU {b:BinOp}{ty:TypeId}(ho:o.op=.binOp b t x y ty):S4 o a P w S ρ β M vs v (.bin b) [a.eval x,a.eval y]:=fun J hv u=>by
  cases hv with|cons h t =>
  cases t with|cons h1 t =>
  cases t
  simp only[Ar]at u
  unfold Ez at u
  split at u
  · rename_i k Z k' W
    have hx:=Cc h
    have N:=Cc h1
    have E:eqGuard b t x y (.int k Z) (a.eval y)=pure ():=eqGuard_at_int ..
    split at u
    · simp only[Ahn]at u
      obtain⟨n,Y,u⟩:=u
      have Q:W=(n:Int):=by cases W <;> simp[Aby]at Y;subst Y;rfl
      subst Q
      obtain⟨c,U,i,rfl,z⟩:=FV (P:=P) w t k k' Z n .shl v (.inl rfl) u
      exact .val J (RepX.ofV (.m z.any)) (by rw[N]at E;simp[execOp,ho,hx,N,E,U])
    · simp only[Ahn]at u
      obtain⟨n,Y,u⟩:=u
      have Q:W=(n:Int):=by cases W <;> simp[Aby]at Y;subst Y;rfl
      subst Q
      obtain⟨c,U,i,rfl,z⟩:=FV (P:=P) w t k k' Z n .shr v (.inr rfl) u
      exact .val J (RepX.ofV (.m z.any)) (by rw[N]at E;simp[execOp,ho,hx,N,E,U])
    · simp only[Ag,ZF]at u
      obtain⟨rfl,u⟩:=u
      obtain⟨c,U,i,rfl,z⟩:=NC (P:=P) w t k Z W b v (by assumption) (by assumption) u
      exact .val J (RepX.ofV (.m z.any)) (by rw[N]at E;simp[execOp,ho,hx,N,E,U])
  · rename_i Z W
    obtain⟨sx,hx,rfl⟩:=Ej h
    obtain⟨sy,N,rfl⟩:=Ej h1
    have E:eqGuard b t x y (.string sx) (a.eval y)=pure ():=eqGuard_at_string ..
    obtain⟨c,U,i,rfl,z⟩:=NB (P:=P) w t sx sy b v u
    exact .val J (RepX.ofV (.m z.any)) (by rw[N]at E;simp[execOp,ho,hx,N,E,U])
  · cases u
theorem Aew {E d:TypeId}(W:o.op=.convert E d x)(hs:∃u,P.underlying E=some u)(U:P.underlying d=some (.int k)):S4 o a P w S ρ β M vs v (.cv k) [a.eval x]:=fun J Q z=>by
  cases Q with|cons h t =>
  cases t
  simp only[Ar]at z
  split at z
  · rename_i Z n
    have Y:=Cc h
    simp only[vi,Aho]at z
    subst z
    obtain⟨u,N⟩:=hs
    refine .val J (RepX.ofV (.m (by rw[Gu];exact .i k (k.wrap n)))) ?_
    simp[execOp,W,Y,convert,run_underlying N,run_underlying U,Conv.intToInt]
  · cases z
theorem By (b off n:Nat):Addr.add ⟨b,off,none⟩ n=⟨b,off+n,none⟩:=Addr.add_lit b off n
variable {p:Addr} {i:TypeInfo}
theorem Jg {f:Field}(u:P.info? f.type=some i)(hs:i.size≠0):(fieldPlace p f).run P w=.ok (p.add f.offset) w:=by
  simp[fieldPlace,AR u,hs]
variable {n j:Nat}
theorem PI {α:Type}{l:List α}{x:α}(h:(l.drop n)[j]? = some x):l[n+j]? = some x:=by rwa[AiS]at h
variable {cs:List I}
theorem Xg {b off:Nat}(h:RepI w S (.pt cs) (.pointer (some ⟨b,off,none⟩))):RepI w S (.pt (cs.drop n)) (.pointer (some ⟨b,off+n,none⟩)):=by
  cases h with
  | pt xs b off f z J E=>exact .pt _ b _ (fun j=>f (n+j)) z (fun j x u=>by rw[Nat.add_assoc];exact J _ _ (PI u)) (fun j x u=>E _ _ (PI u))
theorem Pl (h:RepV w S ρ H (.m (.pt cs)) c):∃b off,c=.pointer (some ⟨b,off,none⟩)/\RepI w S (.pt cs) (.pointer (some ⟨b,off,none⟩)):=by
  have h:=h.imm
  cases h with
  | pt _ b off f u E z=>exact⟨b,off,rfl,.pt cs b off f u E z⟩
def mvA (n:Nat):V->Option V
  | .fa d o=>some (.fa d (o+n))
  | .pt r ver ix o=>some (.pt r ver ix (o+n))
  | .m (.pt cs)=>some (.m (.pt (cs.drop n)))
  | _=>none
theorem Tr {x:V}(h:RepX w S ρ β H x c)(u:mvA n x=some v):∃p,c=.pointer (some p)/\RepX w S ρ β H v (.pointer (some (p.add n))):=by
  unfold mvA at u
  split at u
  · rename_i d off
    simp only[Aho]at u
    subst u
    exact⟨_,h,by rw[By];rfl⟩
  · rename_i r Q ix off
    simp only[Aho]at u
    subst u
    cases RepX.toV rfl h with
    | pt _ _ _ _ ty N es E Y p z W hx U =>
      refine⟨p,rfl,RepX.ofV (.pt r Q ix (off+n) ty N es E Y (p.add n) z W hx fun J=>?_)⟩
      obtain⟨b,rfl,hA⟩:=U J
      exact⟨b,by rw[By,Nat.add_assoc],hA⟩
  · rename_i cs
    simp only[Aho]at u
    subst u
    obtain⟨b,off,rfl,Z⟩:=Pl (RepX.toV rfl h)
    exact⟨_,rfl,RepX.ofV (.m (by rw[By];exact Xg Z))⟩
  · cases u
theorem AaP {f:Nat}{E:Array Field}{fl:Field}(W:o.op=.fieldAddr t x f)(J:P.underlying t=some (.struct E))(Y:E[f]? = some fl)(z:P.info? fl.type=some i)(hs:i.size≠0):S4 o a P w S ρ β M vs v (.fad fl.offset) [a.eval x]:=fun u Q N=>by
  cases Q with|cons h t =>
  cases t
  rename_i x0
  obtain⟨p,U,Z⟩:=Tr (n:=fl.offset) (v:=v) h N
  refine .val u Z ?_
  simp[execOp,W,U,Instr.fieldAt,run_underlying J,Y,Instr.sureAddr,Jg z hs]
theorem GH {i:V}(h:RepX w S ρ β H i c)(u:idx n i=some j):∃k,c=.int k (j:Int)/\j<n:=by
  unfold idx at u
  split at u
  · simp only[Ag,Aho,AiL]at u
    obtain⟨z,rfl⟩:=u
    exact⟨_,Cc (RepX.toV rfl h),z⟩
  · cases u
variable {es:LT}
theorem Jw (h:RepV w S ρ H (.ls es) c):RepI w S (.sl es) c:=by cases h;assumption
theorem Eg (h:RepI w S (.sl es) c):∃a cap,c=.slice a es.length cap/\es.length<=cap/\cap<=maxLen/\(es≠[] -> ∃b off,a=some ⟨b,off,none⟩/\S b):=by
  cases h with
  | sl es a cap U b off cs z Q N E J W Y=>exact⟨a,cap,rfl,z,Q,fun u=>⟨b,off,(E u).1,(E u).2⟩⟩
variable {cap:Nat}
theorem Pa {a:Option Addr}(h:RepI w S (.sl es) (.slice a n cap)){e:List I}(u:nth es j=some e):∃p:Addr,a=some p/\RepI w S (.pt e) (.pointer (some (p.add (j*e.length)))):=by
  rw[AU]at u
  cases h with
  | sl es a cap Z b off cs N hm E Y Q W hr =>
    have z:es≠[]:=by rintro rfl;simp at u
    obtain⟨rfl,U⟩:=Y z
    refine⟨_,rfl,?_⟩
    rw[By,E e (Ahw u)]
    exact .pt e b _ (fun k=>cs j k) U (fun k x J=>by rw[Nat.add_assoc];exact W j e k x u J) (fun k x J=>hr j e k x u J)
variable {e:TypeId}
theorem DG (z:P.underlying t=some (.slice e))(u:P.info? e=some i){len:Nat}(E:j<len):
    (Instr.indexAt t (.slice (some p) len cap) (.int k (j:Int))).run P w=.ok (.pointer (some (p.add (j*i.size)))) w:=by
  simp[Instr.indexAt,asIntOf,run_underlying z,E,AR u]
theorem AaO (ho:o.op=.indexAddr t x y)(hu:P.underlying t=some (.slice e))(W:P.info? e=some i):S4 o a P w S ρ β M vs v (.ixa i.size) [a.eval x,a.eval y]:=fun E hv z=>by
  cases hv with|cons h t =>
  cases t with|cons h1 t =>
  cases t
  simp only[Ar]at z
  split at z
  · rename_i es
    simp only[Ahn,Ag,Aho,AhL]at z
    obtain⟨j,Z,e',J,hl,rfl⟩:=z
    obtain⟨k,hy,u⟩:=GH h1 Z
    have N:=RepV.imm (RepX.toV rfl h)
    obtain⟨ad,cap,Q,_,_,_⟩:=Eg N
    rw[Q]at N
    obtain⟨p,rfl,U⟩:=Pa N J
    rw[hl]at U
    refine .val E (RepX.ofV (.m U)) ?_
    simp[execOp,ho,Q,hy,DG hu W u]
  · rename_i es
    simp only[Ahn,Ag,Aho,AhL]at z
    obtain⟨j,Z,e',J,hl,rfl⟩:=z
    obtain⟨k,hy,u⟩:=GH h1 Z
    have N:=Jw (RepX.toV rfl h)
    obtain⟨ad,cap,Q,_,_,_⟩:=Eg N
    rw[Q]at N
    obtain⟨p,rfl,U⟩:=Pa N J
    rw[hl]at U
    refine .val E (RepX.ofV (.m U)) ?_
    simp[execOp,ho,Q,hy,DG hu W u]
  · rename_i r ver esz' st len lim
    simp only[Ahn,Ag,Aho,AhL]at z
    obtain⟨hes,j,Z,rfl⟩:=z
    obtain⟨k,hy,u⟩:=GH h1 Z
    have h:=RepX.toV rfl h
    generalize Q:a.eval x=c at h
    cases h with
    | sl _ _ _ _ _ _ ty es Y fz ad cap a0 h1 h2 h3 h4 h5 hn hb ha =>
      obtain⟨p,rfl⟩:=hn
      refine .val E (RepX.ofV (.pt r ver (st+j) 0 ty esz' es Y fz (p.add (j*i.size)) a0 h2 (by omega) fun hbv=>?_)) ?_
      · obtain⟨b,U,hA⟩:=hb hbv (by omega)
        cases U
        exact⟨b,by rw[By,hes,Aif,Nat.add_zero],hA⟩
      · simp[execOp,ho,Q,hy,DG hu W u]
  · cases z
end
end Go.Mx
namespace Go.Mx
section
variable {P:Program} {w:World} {S:Nat->Prop} {ρ β:Nat->Nat} {M:Mem} {H:Hp} {o:Oper} {a:Act} {hi:Hint} {vs:List V} {v:V}
theorem XU {x:V}{c:Value}{l:List V}(h:RepX w S ρ β H x c)(hl:aggC x=some l):∃cs,c=.agg cs/\RepL w S ρ H l cs.toList:=by
  unfold aggC at hl
  split at hl
  · simp only[Aho]at hl
    subst hl
    exact RepV.ofAgI (RepX.toV rfl h)
  · simp only[Aho]at hl
    subst hl
    exact RepV.agL (RepX.toV rfl h)
  · cases hl
variable {x y:Operand} {t e:TypeId} {i:TypeInfo}
theorem AaM {n:Nat}{ag:Bool}(ho:o.op=.index t x y)(hu:P.underlying t=some (.array n e))(E:P.info? e=some i) 
    (W:Cl P e=some ag) (hs:ag=true\/i.size=1):S4 o a P w S ρ β M vs v (.ixv n i.size ag) [a.eval x,a.eval y]:=fun J U Y=>by
  cases U with|cons h t =>
  cases t with|cons h1 t =>
  cases t
  simp only[Ar,Ahn]at Y
  obtain⟨j,Z,cs,N,l,hl,U⟩:=Y
  obtain⟨k,hy,Q⟩:=GH h1 Z
  obtain⟨a0,hc,hr⟩:=XU h N
  obtain⟨c,z,u⟩:=WU (P:=P) W E hs hr hl U
  refine .val J (RepX.ofV u) ?_
  simp[execOp,ho,hc,hy,Instr.index,asIntOf,run_underlying hu,Q,AR E,z]
theorem WH {n:Nat}(U:o.op=.indexAddr t x y)(Y:P.underlying t=some (.array n e))(J:P.info? e=some i):S4 o a P w S ρ β M vs v (.ixaA n i.size) [a.eval x,a.eval y]:=fun u E N=>by
  cases E with|cons h t =>
  cases t with|cons W t =>
  cases t
  simp only[Ar,Ahn]at N
  obtain⟨j,Q,E⟩:=N
  obtain⟨k,Z,z⟩:=GH W Q
  obtain⟨p,hp,hr⟩:=Tr (n:=j*i.size) (v:=v) h E
  refine .val u hr ?_
  simp[execOp,U,hp,Z,Instr.indexAt,asIntOf,run_underlying Y,Instr.sureAddr,z,AR J]
theorem AaN (Z:o.op=.index t x y)(hu:P.underlying t=some .string):S4 o a P w S ρ β M vs v .ixs [a.eval x,a.eval y]:=fun E hv z=>by
  cases hv with|cons h t =>
  cases t with|cons h1 t =>
  cases t
  simp only[Ar]at z
  split at z
  · simp only[Ahn,vi,Aho]at z
    obtain⟨j,W,c,N,rfl⟩:=z
    obtain⟨k,hy,Q⟩:=GH h1 W
    obtain⟨s,hx,rfl⟩:=Ej (RepX.toV rfl h)
    rw[AU,AhN]at N
    have u:j<s.data.size:=by simpa using Q
    have J:j<s.size:=u
    have U:c=(s.data[j]'u).toNat:=by
      have:s.data.toList[j]? = some (s.data[j]'u):=by simp
      rw[this]at N
      simpa using N.symm
    refine .val E (RepX.ofV (.m (.i .u8 (Int.ofNat c)))) ?_
    have Y:s[j]? = some (s.data[j]'u):=getElem?_pos s j J
    simp[execOp,Z,hx,hy,Instr.index,asIntOf,run_underlying hu,Y,U]
  · cases z
theorem AaQ {j:Nat}(U:o.op=.extract x j):S4 o a P w S ρ β M vs v (.ext j) [a.eval x]:=fun N Q u=>by
  cases Q with|cons h t =>
  cases t
  simp only[Ar]at u
  split at u
  · obtain⟨cs,Y,W⟩:=RepV.tuL (RepX.toV rfl h)
    rw[AU]at u
    obtain⟨c,E,z⟩:=W.2 j v u
    refine .val N (RepX.ofV z) ?_
    have J:cs[j]? = some c:=by simpa using E
    simp[execOp,U,Y,Instr.extract,J]
  · cases u
variable {α:Type}
theorem GE {β:Type}(f:α->β)(l:Array α):(l.map f).toList=l.toList.map f:=by simp
theorem AaJ {f:Nat}{first cap:Array Operand}(z:f≠yN)(U:o.op=.makeFunc (.func f) first cap)(W:first=#[]):S4 o a P w S ρ β M vs v (.mkf f) (cap.toList.map a.eval):=fun u N E=>by
  simp only[Ar,Ag,Aho]at E
  obtain⟨Q,rfl⟩:=E
  have J:=N.toL Q
  rw[<-GE]at J
  refine .val u (RepX.ofV (J.toFn z)) ?_
  simp[execOp,U,W,Instr.makeFunc]
theorem AaG (N:o.op=.nilCheck x):S4 o a P w S ρ β M vs v .nck [a.eval x]:=fun E U z=>by
  cases U with|cons h t =>
  cases t
  rename_i Q
  have J:v=Q/\((∃p,a.eval x=.pointer (some p))\/(∃f cs,a.eval x=.func (.func f) #[] cs) \/ ∃l,a.eval x=.func (.yield l) #[] #[]):=by
    simp only[Ar]at z
    split at z
    · cases z;exact⟨rfl,.inl ⟨_,h⟩⟩
    · cases z
      refine⟨rfl,.inl ?_⟩
      have h:=RepX.toV rfl h
      generalize a.eval x=c at h
      cases h;exact⟨_,rfl⟩
    · cases z
      obtain⟨b,off,u,_⟩:=Pl (RepX.toV rfl h)
      exact⟨rfl,.inl ⟨_,u⟩⟩
    · cases z
      obtain⟨_,cs,u,_⟩:=RepV.fnL (RepX.toV rfl h)
      exact⟨rfl,.inr (.inl ⟨_,cs,u⟩)⟩
    · cases z
      have h:=(RepX.toV rfl h).imm
      generalize a.eval x=c at h
      cases h;exact⟨rfl,.inr (.inl ⟨_,_,rfl⟩)⟩
    · cases z
      have h:=RepX.toV rfl h
      generalize a.eval x=c at h
      cases h;exact⟨rfl,.inr (.inr ⟨_,rfl⟩)⟩
    · cases z
  obtain⟨rfl,u⟩:=J
  refine .val E h ?_
  rcases u with ⟨p,u⟩|⟨f,cs,u⟩|⟨l,u⟩ <;> simp[execOp,N,u]
variable {c:Go.Call}
theorem AD {b:Builtin}{r:Sem Value}{x:Value}{w':World}(E:o.op=.call c)(z:c.callee=.builtin b) 
    (J:∀u,builtin b c.argTypes o.type u (c.args.map a.eval)=(do pure (.value (<-r)))) (N:r.run P w=.ok x w'):(execOp a.eval o).run P w=.ok (.value x) w':=by
  simp[execOp,E,resolve,z,invoke,J,N]
theorem Zx (mx:Bool):∀(r:List V) (cs:List Value) (k:IntKind) (x:Int),All2 (RepX w S ρ β H) r cs->mmX mx k x r=some v ->
    ∃n,v=.m (.i k n)/\(cs.foldlM (match mx with|true=>Builtin.max2|false=>Builtin.min2) (.int k x):Sem Value).run P w=.ok (.int k n) w
  | [],cs,k,x,hr,he=>by
    cases hr
    simp only[mmX,vi,Aho]at he
    exact⟨x,he.symm,by simp⟩
  | y::r,cs,k,x,hr,he=>by
    cases hr with|cons h t =>
    rename_i c cs
    unfold mmX at he
    split at he <;> rename_i E
    · cases E
    · rename_i J z U
      cases E
      have Q:=Cc (RepX.toV rfl h)
      subst Q
      obtain⟨n,N,u⟩:=Zx mx _ cs k _ t he
      refine⟨n,N,?_⟩
      cases mx
      · simp only[List.foldlM_cons,Sem.run_bind]
        have:(Builtin.min2 (.int k x) (.int J z)).run P w=.ok (.int k (AeP x z)) w:=by
          simp only[Builtin.min2,AeP,CX,Sem.run_pure]
          by_cases h:z<x <;> simp[h]
        rw[this]
        exact u
      · simp only[List.foldlM_cons,Sem.run_bind]
        have:(Builtin.max2 (.int k x) (.int J z)).run P w=.ok (.int k (AeQ x z)) w:=by
          simp only[Builtin.max2,AeQ,CX,Sem.run_pure]
          by_cases h:x<z <;> simp[h]
        rw[this]
        exact u
    · cases he
theorem Zp {mx:Bool}(Q:o.op=.call c)(N:c.callee=.builtin (match mx with|true=>.max|false=>.min)):S4 o a P w S ρ β M vs v (.mm mx) (c.args.toList.map a.eval):=fun J E z=>by
  cases vs with
  | nil=>simp[Ar]at z
  | cons x r =>
    cases hargs:c.args.toList.map a.eval with
    | nil=>rw[hargs]at E;cases E
    | cons Z cs =>
      rw[hargs]at E
      cases E with|cons h t =>
      simp only[Ar]at z
      split at z
      · rename_i k U
        have Y:=Cc (RepX.toV rfl h)
        subst Y
        obtain⟨n,rfl,u⟩:=Zx (P:=P) mx r cs k U t z
        have W:(c.args.map a.eval).toList=.int k U::cs:=by rw[<-hargs];simp
        refine .val J (RepX.ofV (.m (.i k n))) ?_
        cases mx
        · exact AD Q N (fun _=>rfl) (by simp only[Builtin.min_,W];exact u)
        · exact AD Q N (fun _=>rfl) (by simp only[Builtin.max_,W];exact u)
      · cases z
theorem Acd {β:Type}{l:Array α}{f:α->β}{x:β}(h:l.toList.map f=[x]):l.map f=#[x]:=by
  rw[<-GE]at h
  exact Array.toList_inj.1 (by simpa using h)
theorem Acc {β:Type}{l:Array α}{f:α->β}{x y:β}(h:l.toList.map f=[x,y]):l.map f=#[x,y]:=by
  rw[<-GE]at h
  exact Array.toList_inj.1 (by simpa using h)
theorem EX {c:Value}(h:RepV w S ρ H (.m (.nl 4)) c):c=.slice none 0 0:=by have:=h.imm;cases this;rfl
theorem ZG {x y:Bool}(h:eqB x y=true):y=x:=by cases x <;> cases y <;> simp[eqB]at h ⊢
theorem SS {str:Bool}(ho:o.op=.call c)(Y:c.callee=.builtin .len)(Q:c.argTypes[0]? = some t)(W:Ok w S ρ β M)(hv:All2 (RepX w S ρ β M.H) vs (c.args.toList.map a.eval))(z:Ar (.len str) vs=some v)(N:str=true->P.underlying t=some .string)(E:str=false -> ∃e,P.underlying t=some (.slice e)):
    Outc w S ρ β M (.p (.len str)) v M ((execOp a.eval o).run P w):=by
  cases vs with
  | nil=>simp[Ar]at z
  | cons x r =>
    cases r with
    | cons y r=>simp[Ar]at z
    | nil =>
      obtain⟨c0,J,h⟩:=hv.inv1
      have hm:=Acd J
      have fin:∀n:Nat,v=.m (.i .i64 (Int.ofNat n))->(Builtin.len_ c.argTypes o.type #[c0]).run P w=.ok (.int .i64 (n:Int)) w->Outc w S ρ β M (.p (.len str)) v M ((execOp a.eval o).run P w):=fun n hn hr=>by
        subst hn
        exact .val W (RepX.ofV (.m (.i .i64 (Int.ofNat n)))) (AD ho Y (fun _=>by rw[hm];rfl) hr)
      simp only[Ar,vi,Ag]at z
      obtain⟨U,z⟩:=z
      have U:=ZG U
      subst U
      split at z
      · simp only[Aho]at z
        obtain⟨e,u⟩:=E rfl
        have hc:=EX (RepX.toV rfl h)
        subst hc
        exact fin 0 z.symm (by simp[Builtin.len_,Q,run_underlying u,goInt])
      · rename_i es
        simp only[Aho]at z
        obtain⟨e,u⟩:=E rfl
        obtain⟨Z,cap,rfl,_⟩:=Eg (RepX.toV rfl h).imm
        exact fin es.length z.symm (by simp[Builtin.len_,Q,run_underlying u,goInt])
      · rename_i es
        simp only[Aho]at z
        obtain⟨e,u⟩:=E rfl
        obtain⟨Z,cap,rfl,_⟩:=Eg (Jw (RepX.toV rfl h))
        exact fin es.length z.symm (by simp[Builtin.len_,Q,run_underlying u,goInt])
      · rename_i l
        simp only[Aho]at z
        have u:=N rfl
        obtain⟨s,rfl,rfl⟩:=Ej (RepX.toV rfl h)
        exact fin _ z.symm (by simp[Builtin.len_,Q,run_underlying u,goInt])
      · rename_i r ver esz st len a0
        simp only[Aho]at z
        obtain⟨e,u⟩:=E rfl
        have h:=RepX.toV rfl h
        cases h
        exact fin len z.symm (by simp[Builtin.len_,Q,run_underlying u,goInt])
      · cases z
end
end Go.Mx
namespace Go.Mx
section
variable {P:Program} {w:World} {S:Nat->Prop} {ρ β:Nat->Nat} {M:Mem} {H:Hp} {o:Oper} {a:Act} {hi:Hint} {vs:List V} {v:V}
variable {n:Nat} {c:Value}
theorem DH {j:Nat}{x:V}(h:RepX w S ρ β H x c)(u:bnd n x=some j):∃k,c=.int k (j:Int)/\j<=n:=by
  unfold bnd at u
  split at u
  · simp only[Ag,Aho,Aid]at u
    obtain⟨z,rfl⟩:=u
    exact⟨_,Cc (RepX.toV rfl h),z⟩
  · cases u
theorem Ck {isS lo hi mx:Bool}{c l h:Nat}{vs:List V}{cs:List Value}{J N Q:Option Value}(hn:n<=c)(z:cs=J.toList++N.toList++Q.toList) 
    (Y:J.isSome=lo) (Z:N.isSome=hi) (a0:Q.isSome=mx) (hv:All2 (RepX w S ρ β H) vs cs) (W:KH n lo hi mx vs=some (l,h)) :
    (Instr.sliceBounds isS n c J N Q).run P w=.ok (l,h,if mx then h else c) w/\l<=h/\h<=n:=by
  have sb:∀(k:IntKind) (j m:Nat) (a2:BoundsCode),j<=m->(Instr.sliceBound (.int k (j:Int)) m a2).run P w=.ok j w:=fun k j m a2 hj=>by
    have:=run_sliceBound (P:=P) (w:=w) k (j:Int) m a2 (by omega) (by omega)
    simpa using this
  unfold KH at W
  split at W
  · cases J <;> simp at Y
    cases N <;> simp at Z
    cases Q <;> simp at a0
    simp only[Aho,Ahp]at W
    obtain⟨rfl,rfl⟩:=W
    exact⟨by simp[Instr.sliceBounds],Ahy _,Ahu _⟩
  · obtain⟨J,rfl⟩:=Ais.1 Y
    cases N <;> simp at Z
    cases Q <;> simp at a0
    simp only[Ahn,Aho,Ahp]at W
    obtain⟨j,hj,rfl,rfl⟩:=W
    obtain⟨c0,U,h0⟩:=hv.inv1
    simp[U]at z
    subst z
    obtain⟨k,rfl,u⟩:=DH h0 hj
    exact⟨by simp[Instr.sliceBounds,sb _ _ _ _ u],u,Ahu _⟩
  · cases J <;> simp at Y
    obtain⟨N,rfl⟩:=Ais.1 Z
    cases Q <;> simp at a0
    simp only[Ahn,Aho,Ahp]at W
    obtain⟨j,hj,rfl,rfl⟩:=W
    obtain⟨c0,U,h0⟩:=hv.inv1
    simp[U]at z
    subst z
    obtain⟨k,rfl,u⟩:=DH h0 hj
    exact⟨by simp[Instr.sliceBounds,sb _ _ _ _ (AiF u hn)],Ahy _,u⟩
  · obtain⟨J,rfl⟩:=Ais.1 Y
    obtain⟨N,rfl⟩:=Ais.1 Z
    cases Q <;> simp at a0
    simp only[Ahn,Aho,Ahp]at W
    obtain⟨j,hj,i,hi',rfl,rfl⟩:=W
    obtain⟨c0,c1,U,h0,h1⟩:=hv.inv2
    simp[U]at z
    obtain⟨rfl,rfl⟩:=z
    obtain⟨k,rfl,u⟩:=DH h1 hj
    obtain⟨k',rfl,E⟩:=DH h0 hi'
    exact⟨by simp[Instr.sliceBounds,sb _ _ _ _ (AiF u hn),sb _ _ _ _ E],E,u⟩
  · cases J <;> simp at Y
    obtain⟨N,rfl⟩:=Ais.1 Z
    obtain⟨Q,rfl⟩:=Ais.1 a0
    simp only[Ahn,Ag,AhL,Aho,Ahp]at W
    obtain⟨m,hm,j,hj,rfl,rfl,rfl⟩:=W
    obtain⟨c0,c1,U,h0,h1⟩:=hv.inv2
    simp[U]at z
    obtain⟨rfl,rfl⟩:=z
    obtain⟨k,rfl,u⟩:=DH h1 hm
    obtain⟨k',rfl,E⟩:=DH h0 hj
    exact⟨by simp[Instr.sliceBounds,sb _ _ _ _ (AiF u hn),sb _ _ _ _ E],Ahy _,u⟩
  · obtain⟨J,rfl⟩:=Ais.1 Y
    obtain⟨N,rfl⟩:=Ais.1 Z
    obtain⟨Q,rfl⟩:=Ais.1 a0
    simp only[Ahn,Ag,AhL,Aho,Ahp]at W
    obtain⟨m,hm,j,hj,rfl,i,hi',rfl,rfl⟩:=W
    obtain⟨c0,c1,c2,U,h0,h1,h2⟩:=hv.inv3
    simp[U]at z
    obtain⟨rfl,rfl,rfl⟩:=z
    obtain⟨k,rfl,u⟩:=DH h2 hm
    obtain⟨k',rfl,E⟩:=DH h1 hj
    obtain⟨k'',rfl,a1⟩:=DH h0 hi'
    exact⟨by simp[Instr.sliceBounds,sb _ _ _ _ (AiF u hn),sb _ _ _ _ E,sb _ _ _ _ a1],a1,u⟩
  · cases W
theorem EF {α β:Type}(f:α->β)(x y z:Option α):(x.toList++y.toList++z.toList).map f=(x.map f).toList++(y.map f).toList++(z.map f).toList:=by
  cases x <;> cases y <;> cases z <;> rfl
variable {es:LT}
theorem Ny {ad:Option Addr}{cap l h m:Nat}{E:Nat}(hI:RepI w S (.sl es) (.slice ad n cap))(hl:l<=h)(hh:h<=n)(hm:h<=m)(hmc:m<=cap)(Y:∀e,e∈es->e.length=E):
    RepI w S (.sl ((es.drop l).take (h-l))) (.slice (if m=l then ad else ad.map (·.add (l*E))) (h-l) (m-l)):=by
  cases hI with
  | sl _ _ _ z b off cs hcap hmx J ha hnn hc hr =>
    have u:((es.drop l).take (h-l)).length=h-l:=by rw[AhH,Aie];omega
    have N:∀ {i e},((es.drop l).take (h-l))[i]? = some e->es[l+i]? = some e:=fun {i e} hi=>by
      rw[AhX]at hi
      split at hi
      · rwa[AiS]at hi
      · cases hi
    have Q:=RepI.sl (w:=w) (S:=S) ((es.drop l).take (h-l)) (if m=l then ad else ad.map (·.add (l*E))) (m-l) z b (off+l*z) (fun i j=>cs (l+i) j)
      (by omega) (by omega) (fun e W=>J e (List.mem_of_mem_drop (Aiz W)))
      (fun a0=>by
        have hpos:0<h-l:=by rw[<-u];exact AiX.2 a0
        have U:es≠[]:=by rintro rfl;simp at u;omega
        have Z:E=z:=by
          obtain⟨e,W⟩:=List.exists_mem_of_ne_nil es U
          rw[<-Y e W,J e W]
        obtain⟨h1,h2⟩:=ha U
        subst h1
        rw[Aht (by omega),Z]
        exact⟨by simp[By],h2⟩)
      (by obtain⟨p,rfl⟩:=hnn;split;exact⟨_,rfl⟩;exact⟨_,rfl⟩)
      (fun i e j x hi hj=>by
        have:=hc _ _ _ _ (N hi) hj
        rw[<-this]
        congr 2
        rw[Aif]
        omega)
      (fun i e j x hi hj=>hr _ _ _ _ (N hi) hj)
    rw[u]at Q
    exact Q
theorem Abd (h:RepI w S (.sl es) c):∃n,∀e,e∈es->e.length=n:=by
  cases h with
  | sl _ _ _ z b off cs E N u Q J W U=>exact⟨z,u⟩
variable {x:Operand} {lo mx:Option Operand} {t:TypeId}
theorem Nx {z:Nat}{hi:Option Operand}(ho:o.op=.slice t x lo hi mx)(hu:P.underlying t=some .string){l:List Nat} 
    (N:Ok w S ρ β M) (h:RepX w S ρ β M.H (.m (.s l)) (a.eval x)) (hv:All2 (RepX w S ρ β M.H) vs ((lo.toList++hi.toList++mx.toList).map a.eval)) (Z:Ar (.slc z lo.isSome hi.isSome mx.isSome) (.m (.s l)::vs)=some v) :
    Outc w S ρ β M (.p (.slc z lo.isSome hi.isSome mx.isSome)) v M ((execOp a.eval o).run P w):=by
  simp only[Ar,Ag,Ahn,Aho]at Z
  obtain⟨_,W,⟨J,U⟩,Y,rfl⟩:=Z
  have Q:mx=none:=by cases mx <;> simp at W ⊢
  subst Q
  obtain⟨s,hx,rfl⟩:=Ej (RepX.toV rfl h)
  rw[EF]at hv
  have E:(s.data.toList.map UInt8.toNat).length=s.size:=by simp
  rw[E]at Y
  obtain⟨u,h1,h2⟩:=Ck (P:=P) (isS:=false) (c:=s.size) (Ahu _) rfl (by simp) (by simp) (by simp) hv Y
  refine .val N (RepX.ofV (.m (.s (s.extract J U) _ ?_))) ?_
  · have:(s.extract J U).data.toList=(s.data.toList.drop J).take (U-J):=by
      rw[ByteArray.data_extract,Array.toList_extract]
    rw[this,List.map_take,List.map_drop]
  · simp only[execOp,ho,hx,Instr.sliceAt,Sem.run_bind,run_underlying hu,Result.andThen_ok,Instr.slice]
    simp only[Option.map_none]at u
    simp[u]
theorem Pp (h:RepI w S (.sl es) c)(z:Ws n es=true):∀e,e∈es->e.length=n:=by
  obtain⟨k,u⟩:=Abd h
  cases es with
  | nil=>simp
  | cons e es =>
    simp only[Ws,AhL]at z
    have:=u e (by simp)
    intro x E
    rw[u x E]
    omega
theorem AaF {e:TypeId}{hi:Option Operand}{i:TypeInfo}{z:Nat}(ho:o.op=.slice t x lo hi mx)(hu:P.underlying t=some (.slice e))(hi':P.info? e=some i)(hz:i.size=z){x0:V} 
    (a0:Ok w S ρ β M) (h:RepX w S ρ β M.H x0 (a.eval x)) (hns:∀l,x0 ≠ .m (.s l)) (hv:All2 (RepX w S ρ β M.H) vs ((lo.toList++hi.toList++mx.toList).map a.eval)) (he:Ar (.slc z lo.isSome hi.isSome mx.isSome) (x0::vs)=some v) :
    Outc w S ρ β M (.p (.slc z lo.isSome hi.isSome mx.isSome)) v M ((execOp a.eval o).run P w):=by
  subst hz
  rw[EF]at hv
  have run:∀Y n cap,a.eval x=.slice Y n cap -> ∀l h m,(Instr.sliceBounds true n cap (lo.map a.eval) (hi.map a.eval) (mx.map a.eval)).run P w=.ok (l,h,m) w ->
      (execOp a.eval o).run P w=.ok (.value (.slice (if m=l then Y else Y.map (·.add (l*i.size))) (h-l) (m-l))) w:=fun Y n cap hx l h m hb=>by
    simp only[execOp,ho,hx,Instr.sliceAt,Sem.run_bind,run_underlying hu,Result.andThen_ok,Instr.slice,hb,AR hi',Sem.run_pure]
  simp only[Ar]at he
  replace he:=(Ag.1 he).2
  split at he
  · exact absurd rfl (hns _)
  · simp only[Ahn,Aho]at he
    obtain⟨⟨u,Q⟩,hb,rfl⟩:=he
    have hx:=EX (RepX.toV rfl h)
    obtain⟨J,h1,h2⟩:=Ck (P:=P) (isS:=true) (c:=0) (Ahu _) rfl (by simp) (by simp) (by simp) hv hb
    have hr:=run _ _ _ hx _ _ _ J
    have hp0:u=0:=by omega
    have hq0:Q=0:=by omega
    subst hp0;subst hq0
    refine .val a0 (RepX.ofV (.m .nls)) ?_
    rw[hr]
    simp
  · rename_i es
    simp only[Ag,Ahn,Aho]at he
    obtain⟨hel,⟨u,Q⟩,hb,rfl⟩:=he
    have hI:=(RepX.toV rfl h).imm
    have hesz:=Pp hI hel
    obtain⟨Y,cap,hx,hcap,hcm,_⟩:=Eg hI
    rw[hx]at hI
    obtain⟨J,h1,h2⟩:=Ck (P:=P) (isS:=true) (c:=cap) hcap rfl (by simp) (by simp) (by simp) hv hb
    have W:=fun m (hm:Q<=m) (Z:m<=cap)=>Ny hI h1 h2 hm Z hesz
    have hr:=run _ _ _ hx _ _ _ J
    have U:((es.drop u).take (Q-u)).length=Q-u:=by rw[AhH,Aie];omega
    cases E:mx.isSome with
    | true =>
      rw[E]at hr
      refine .val a0 (RepX.ofV ?_) hr
      simp only[if_true]
      have hc:=W Q (Ahu _) (by omega)
      have:=RepV.ls (w:=w) (S:=S) (ρ:=ρ) (H:=M.H) ((es.drop u).take (Q-u)) (if Q=u then Y else Y.map (·.add (u*i.size))) (by rw[U];exact hc)
      rw[U]at this
      exact this
    | false =>
      rw[E]at hr
      refine .val a0 (RepX.ofV (.m ?_)) hr
      simp only[AiQ,if_false]
      exact W cap (by omega) (Ahu _)
  · rename_i es
    simp only[Ag,Ahn,Aho]at he
    obtain⟨hel,⟨u,Q⟩,hb,rfl⟩:=he
    have hV:=RepX.toV rfl h
    have hI:=Jw hV
    have hesz:=Pp hI hel
    obtain⟨Y,hx⟩:∃Y,a.eval x=.slice Y es.length es.length:=by generalize a.eval x=c at hV;cases hV;exact⟨_,rfl⟩
    rw[hx]at hI
    obtain⟨J,h1,h2⟩:=Ck (P:=P) (isS:=true) (c:=es.length) (Ahu _) rfl (by simp) (by simp) (by simp) hv hb
    have W:=fun m (hm:Q<=m) (Z:m<=es.length)=>Ny hI h1 h2 hm Z hesz
    have hr:=run _ _ _ hx _ _ _ J
    have U:((es.drop u).take (Q-u)).length=Q-u:=by rw[AhH,Aie];omega
    have lsr:∀m,m=Q->(hm:Q<=m)->(Z:m<=es.length)->RepV w S ρ M.H (.ls ((es.drop u).take (Q-u))) (.slice (if m=u then Y else Y.map (·.add (u*i.size))) (Q-u) (m-u)):=fun m hmp hm Z=>by
      subst hmp
      have hc:=W m hm Z
      have:=RepV.ls (w:=w) (S:=S) (ρ:=ρ) (H:=M.H) ((es.drop u).take (m-u)) (if m=u then Y else Y.map (·.add (u*i.size))) (by rw[U];exact hc)
      rw[U]at this
      exact this
    cases E:mx.isSome with
    | true =>
      rw[E]at hr
      refine .val a0 (RepX.ofV ?_) hr
      simp only[if_true,Bool.true_or]
      exact lsr Q rfl (Ahu _) (by omega)
    | false =>
      rw[E]at hr
      refine .val a0 (RepX.ofV ?_) hr
      simp only[AiQ,if_false,Bool.false_or]
      cases hbq:Nat.beq Q es.length with
      | true=>exact lsr es.length (AhI hbq).symm (by omega) (Ahu _)
      | false=>exact .m (W es.length (by omega) (Ahu _))
  · rename_i r ver esz st len lim
    simp only[Ag,AhL,Ahn,Aho]at he
    obtain⟨hsz,⟨u,Q⟩,hb,rfl⟩:=he
    subst hsz
    have hV:=RepX.toV rfl h
    generalize hx:a.eval x=c at hV
    cases hV with
    | sl _ _ _ _ _ _ ty es base fz Y cap hrow h1 h2 h3 h4 h5 hn hb' ha =>
      obtain⟨J,k1,k2⟩:=Ck (P:=P) (isS:=true) (c:=cap) h3 rfl (by simp) (by simp) (by simp) hv hb
      have hr:=run _ _ _ hx _ _ _ J
      refine .val a0 (RepX.ofV ?_) hr
      refine .sl r ver i.size (st+u) (Q-u) _ ty es base fz _ _ hrow (by omega) h2 ?_ ?_ ?_ ?_ ?_ ?_
      · split <;> omega
      · split <;> omega
      · intro N
        cases E:mx.isSome with
        | true=>simp
        | false =>
          rw[E]at N
          simp only[Bool.false_or,Ahs,AhL]at N
          have:=h5 N.1
          simp
          omega
      · obtain⟨p,hp⟩:=hn
        subst hp
        have key:∀q:Nat,∃p',(if q=u then some p else Option.map (fun x=>x.add (u*i.size)) (some p))=some p':=fun q=>by split <;> exact⟨_,rfl⟩
        exact key _
      · intro hbv hpos
        obtain⟨b,hp,hA⟩:=hb' hbv (by omega)
        subst hp
        have hne:¬(if mx.isSome=true then Q else cap)=u:=by split <;> omega
        rw[Aht hne]
        exact⟨b,by simp[By,Aif],hA⟩
      · intro hve hst N hle
        have E:mx.isSome=false:=by cases E:mx.isSome <;> simp[E]at N ⊢
        have hl0:lim=false:=by
          cases lim with
          | false=>rfl
          | true =>
            rw[E]at N
            have hbq:Nat.beq Q len=true:=by rw[AhL];omega
            simp[hbq]at N
        obtain⟨hp,cur,mk,hh,hcs⟩:=ha hve (by omega) hl0 (by omega)
        subst hp
        have hp0:u=0:=by omega
        subst hp0
        refine⟨?_,cur,mk,hh,?_⟩
        · split <;> simp[By]
        · rw[E];simpa using hcs
  · cases he
end
end Go.Mx
namespace Go.Mx
section
variable {P:Program} {w:World} {S:Nat->Prop} {ρ β:Nat->Nat} {M:Mem} {H:Hp}
def Vt (P:Program)(t:TypeId)(c:Value)(cs:List Value):Prop:=(Cl P t=some true /\ ∃a:Array Value,c=.agg a/\a.toList=cs)\/(Cl P t=some false/\cs=[c])
def LI (w:World)(S:Nat->Prop)(xs:List I)(cs:List Value):Prop:=RepL w S id [] (xs.map .m) cs
variable {xs:List I} {cs:List Value}
theorem LI.ofL (h:RepL w S ρ H (xs.map .m) cs):LI w S xs cs:=by
  obtain⟨E,c,N,J⟩:=h.toI
  refine⟨by simpa using E,fun j x u=>?_⟩
  simp only[AhN,AhW]at u
  obtain⟨y,z,rfl⟩:=u
  exact⟨c j,N j y z,.m (J j y z)⟩
theorem LI.len (h:LI w S xs cs):cs.length=xs.length:=by have:=h.1;simpa using this
theorem LI.drop (h:LI w S xs cs)(n:Nat):LI w S (xs.drop n) (cs.drop n):=by have:=RepL.drop h n;rwa[<-List.map_drop]at this
theorem LI.take (h:LI w S xs cs)(n:Nat):LI w S (xs.take n) (cs.take n):=by have:=RepL.take h n;rwa[<-List.map_take]at this
variable {c:Value}
theorem LI.one {x:I}(h:LI w S [x] [c]):RepI w S x c:=(RepL.head (xs:=[]) (cs:=[]) h).imm
variable {t:TypeId} {i:TypeInfo}
theorem Abm {ag:Bool}(w:World)(u:Cl P t=some ag)(hi:P.info? t=some i)(hs:ag=false->i.size=1){cs:Array Value}{off:Nat}(hl:ag=false->off<cs.size):
    ∃c,(part t cs off).run P w=.ok c w/\Vt P t c ((cs.toList.drop off).take i.size):=by
  cases ag with
  | true =>
    refine⟨.agg (cs.extract off (off+i.size)),by simp[part,DP u,AR hi],.inl ⟨u,_,rfl,?_⟩⟩
    simp[List.take_drop]
  | false =>
    obtain⟨c,z⟩:∃c,cs[off]? = some c:=⟨_,Array.getElem?_eq_getElem (hl rfl)⟩
    refine⟨c,by simp[part,DP u,z],.inr ⟨u,?_⟩⟩
    rw[hs rfl]
    have J:cs.toList[off]? = some c:=by simpa using z
    obtain⟨N,E⟩:=Ahq.1 J
    rw[AiM N,E]
    rfl
theorem FH:∀(u z:List Nat) (xs ys:List I) (r:Bool),Fv (u++z) xs ys=some r ->
    ∃E J,Fv u (xs.take u.length) (ys.take u.length)=some E/\Fv z (xs.drop u.length) (ys.drop u.length)=some J/\r=(E&&J)
  | [],z,xs,ys,r,h=>⟨true,r,by simp[Fv],by simpa using h,by simp⟩
  | k::u,z,xs,ys,r,h=>by
    cases xs with
    | nil=>simp[Fv]at h
    | cons x xs =>
      cases ys with
      | nil=>simp[Fv]at h
      | cons y ys =>
        simp only[Aiq,Fv,Ahn,Aho]at h
        obtain⟨a,U,b,N,rfl⟩:=h
        obtain⟨E,J,W,Q,rfl⟩:=FH u z xs ys b N
        exact⟨a&&E,J,by simp[Fv,U,W],by simpa using Q,by simp[Bool.and_assoc]⟩
theorem Em:∀(ks:List Nat) (xs ys:List I) (r:Bool),Fv ks xs ys=some r->xs.length=ks.length/\ys.length=ks.length
  | [],[],[],_,_=>by simp
  | [],_::_,_,_,h=>by simp[Fv]at h
  | [],[],_::_,_,h=>by simp[Fv]at h
  | _::_,[],_,_,h=>by simp[Fv]at h
  | _::_,_::_,[],_,h=>by simp[Fv]at h
  | k::ks,x::xs,y::ys,r,h=>by
    simp only[Fv,Ahn,Aho]at h
    obtain⟨a,z,b,u,rfl⟩:=h
    have:=Em ks xs ys b u
    simp[this.1,this.2]
variable {k:Nat} {r:Bool}
theorem IA {x y:I}{u:Value}(h:eqC k x y=some r)(E:RepI w S x c)(z:RepI w S y u):
    (k=0 /\ ∃a b,c=.bool a/\u=.bool b/\r=(a==b))\/(k=1 /\ ∃j a b,c=.int j a/\u=.int j b/\r=(a==b))\/(k=2 /\ ∃a b,c=.string a/\u=.string b/\r=(a==b)):=by
  unfold eqC at h
  split at h
  · simp only[Ag,AhL,Aho]at h
    obtain⟨rfl,rfl⟩:=h
    cases E;cases z
    exact .inl ⟨rfl,_,_,rfl,rfl,rfl⟩
  · simp only[Ag,Ahs,AhL,ZF,Aho]at h
    obtain⟨⟨rfl,rfl⟩,rfl⟩:=h
    cases E;cases z
    exact .inr (.inl ⟨rfl,_,_,_,rfl,rfl,DY ..⟩)
  · simp only[Ag,AhL,Aho]at h
    obtain⟨rfl,rfl⟩:=h
    cases E with|s a _ N =>
    cases z with|s b _ J =>
    subst N;subst J
    refine .inr (.inr ⟨rfl,_,_,rfl,rfl,?_⟩)
    rw[Iz]
    rw[beq_toListBytes,ByteArray.toList_eq,ByteArray.toList_eq]
    by_cases e:a.data.toList=b.data.toList
    · rw[e];simp
    · have Q:¬a.data.toList.map UInt8.toNat=b.data.toList.map UInt8.toNat:=fun h=>e (Cp.1 h)
      rw[AhB Q,beq_eq_false_iff_ne.2 e]
  · cases h
def EqT (P:Program)(d:Nat)(t:TypeId)(ks:List Nat):Prop:=∀(w:World) (S:Nat->Prop) (c c':Value) (cs cs':List Value) (xs ys:List I) (r:Bool),Vt P t c cs->Vt P t c' cs'->LI w S xs cs->LI w S ys cs'->Fv ks xs ys=some r->(Op.equalIn d t c c').run P w=.ok r w
variable {ks:List Nat}
theorem Mo (h:CU P k t=some ks):∃ag,Cl P t=some ag/\(ag=false->ks.length=1):=by
  cases k with
  | zero=>simp[CU]at h
  | succ k =>
    simp only[CU]at h
    split at h
    · rename_i u
      exact⟨false,by simp[Cl,u],fun _=>by simp at h;simp[<-h]⟩
    · rename_i u
      exact⟨false,by simp[Cl,u],fun _=>by simp at h;simp[<-h]⟩
    · rename_i u
      exact⟨false,by simp[Cl,u],fun _=>by simp at h;simp[<-h]⟩
    · rename_i u
      exact⟨true,by simp[Cl,u],by simp⟩
    · rename_i u
      exact⟨true,by simp[Cl,u],by simp⟩
    · cases h
theorem DX (h:CU P k t=some ks)(hi:P.info? t=some i)(u:i.size=ks.length){E:Array Value}{o:Nat}(N:LI w S xs (E.toList.drop o))(hl:ks.length<=xs.length):
    ∃c,(part t E o).run P w=.ok c w/\Vt P t c ((E.toList.drop o).take ks.length):=by
  obtain⟨ag,z,J⟩:=Mo h
  rw[<-u]
  refine Abm w z hi (fun e=>by rw[u];exact J e) (fun e=>?_)
  have:=N.len
  simp at this
  have:=J e
  omega
theorem Iw {d k:Nat}(IH:∀t ks,CU P k t=some ks->EqT P d t ks)(S:Nat->Prop)(W Q:Array Value):∀(J:List Field) (o:Nat) (ks:List Nat),JD (CU P k) (BD P) o J=some ks ->
    ∀(xs ys:List I) (r:Bool),LI w S xs (W.toList.drop o)->LI w S ys (Q.toList.drop o)->Fv ks xs ys=some r->(Op.eqFields d W Q J).run P w=.ok r w
  | [],o,ks,h,xs,ys,r,hx,hy,he=>by
    simp only[JD,Aho]at h
    subst h
    have:r=true:=by
      cases xs <;> cases ys <;> simp[Fv]at he
      exact he
    subst this
    simp[Op.eqFields]
  | f::J,o,ks,h,xs,ys,r,hx,hy,he=>by
    simp only[JD,Ag,Ahs,AhL,AhC,Ahn,Aho,AP]at h
    obtain⟨⟨ho,hn⟩,s,N,s',⟨i,hi,rfl⟩,u,l,Z,rfl⟩:=h
    obtain⟨Y,r2,h1,h2,rfl⟩:=FH _ _ _ _ _ he
    have U:=Em _ _ _ _ he
    simp at U
    obtain⟨c,p1,v1⟩:=DX N hi u.symm hx (by omega)
    obtain⟨c',p2,v2⟩:=DX N hi u.symm hy (by omega)
    have e1:=IH _ _ N w S c c' _ _ _ _ Y v1 v2 (hx.take _) (hy.take _) h1
    simp only[Op.eqFields,hn,ne_eq,not_false_eq_true,if_true,ho,Sem.run_bind,p1,p2,e1,Result.andThen_ok]
    have E:=hx.drop s.length
    have z:=hy.drop s.length
    rw[AiH]at E z
    rw[<-u]at Z
    have ih:=Iw IH S W Q J (o+s.length) l Z _ _ r2 E z h2
    cases Y
    · simp
    · simpa using ih
theorem JC {d k:Nat}{e:TypeId}{s:List Nat}(hs:CU P k e=some s)(W:EqT P d e s){i:TypeInfo}(hi:P.info? e=some i)(u:i.size=s.length)(S:Nat->Prop)(Q J:Array Value):∀(n j:Nat) (xs ys:List I) (r:Bool),
    LI w S xs (Q.toList.drop (j*s.length))->LI w S ys (J.toList.drop (j*s.length))->Fv (List.replicate n s).flatten xs ys=some r->(Op.eqItems d e s.length Q J (List.range' j n)).run P w=.ok r w
  | 0,j,xs,ys,r,hx,hy,he=>by
    have:r=true:=by
      cases xs <;> cases ys <;> simp[Fv]at he
      exact he
    subst this
    simp[Op.eqItems]
  | n+1,j,xs,ys,r,hx,hy,he=>by
    rw[List.replicate_succ,Ain]at he
    obtain⟨U,Y,h1,Z,rfl⟩:=FH _ _ _ _ _ he
    have N:=Em _ _ _ _ he
    simp only[AhF]at N
    obtain⟨c,p1,v1⟩:=DX hs hi u hx (by omega)
    obtain⟨c',p2,v2⟩:=DX hs hi u hy (by omega)
    have e1:=W w S c c' _ _ _ _ U v1 v2 (hx.take _) (hy.take _) h1
    simp only[List.range'_succ,Op.eqItems,Sem.run_bind,p1,p2,e1,Result.andThen_ok]
    have E:=hx.drop s.length
    have z:=hy.drop s.length
    rw[AiH,show j*s.length+s.length=(j+1)*s.length by rw[Aif];omega]at E z
    have ih:=JC hs W hi u S Q J n (j+1) _ _ Y E z Z
    cases U
    · simp
    · simpa using ih
theorem Vt.agg (h:Vt P t c cs)(u:Cl P t=some true):∃a:Array Value,c=.agg a/\a.toList=cs:=by
  rcases h with h|h
  · exact h.2
  · rw[u]at h;cases h.1
theorem Vt.cell (h:Vt P t c cs)(u:Cl P t=some false):cs=[c]:=by
  rcases h with h|h
  · rw[u]at h;cases h.1
  · exact h.2
theorem KA {x y:List I}(h:Fv [k] x y=some r):∃a b,x=[a]/\y=[b]/\eqC k a b=some r:=by
  have:=Em _ _ _ _ h
  match x,y,this with
  | [a],[b],_ =>
    simp only[Fv,Ahn,Aho]at h
    obtain⟨p,u,q,rfl,rfl⟩:=h
    exact⟨a,b,rfl,rfl,by simpa using u⟩
theorem Ks:∀(k:Nat) (t:TypeId) (ks:List Nat),CU P k t=some ks -> ∀d,EqT P (d+k) t ks
  | 0,_,_,h,_=>by simp[CU]at h
  | k+1,t,ks,h,d=>by
    intro w S c c' cs cs' xs ys r Z N Q Y W
    simp only[CU]at h
    split at h
    · rename_i z
      have u:Cl P t=some false:=by simp[Cl,z]
      simp only[Aho]at h
      subst h
      obtain⟨a,b,rfl,rfl,U⟩:=KA W
      have:=Z.cell u;subst this
      have:=N.cell u;subst this
      rcases IA U Q.one Y.one with ⟨_,p,q,rfl,rfl,rfl⟩|⟨h,_⟩|⟨h,_⟩
      · exact run_equalIn_bool w _ t p q z
      · cases h
      · cases h
    · rename_i kk z
      have u:Cl P t=some false:=by simp[Cl,z]
      simp only[Aho]at h
      subst h
      obtain⟨a,b,rfl,rfl,U⟩:=KA W
      have:=Z.cell u;subst this
      have:=N.cell u;subst this
      rcases IA U Q.one Y.one with ⟨h,_⟩|⟨_,j,p,q,rfl,rfl,rfl⟩|⟨h,_⟩
      · cases h
      · exact run_equalIn_int w _ t j kk p q z
      · cases h
    · rename_i z
      have u:Cl P t=some false:=by simp[Cl,z]
      simp only[Aho]at h
      subst h
      obtain⟨a,b,rfl,rfl,U⟩:=KA W
      have:=Z.cell u;subst this
      have:=N.cell u;subst this
      rcases IA U Q.one Y.one with ⟨h,_⟩|⟨h,_⟩|⟨_,p,q,rfl,rfl,rfl⟩
      · cases h
      · cases h
      · rw[beq_toListBytes];exact run_equalIn_string w _ t p q z
    · rename_i fs z
      have u:Cl P t=some true:=by simp[Cl,z]
      simp only[Ag,Aia]at h
      obtain⟨a0,h⟩:=h
      obtain⟨a,rfl,rfl⟩:=Z.agg u
      obtain⟨b,rfl,rfl⟩:=N.agg u
      have J:P.fieldsOf t=fs:=by simp[Program.fieldsOf,z]
      rw[<-Nat.add_assoc,run_equalIn_struct w (d+k) t a b (by rw[J];exact z) a0,J]
      exact Iw (fun t ks hk=>Ks k t ks hk d) S a b fs.toList 0 ks h xs ys r (by simpa using Q) (by simpa using Y) W
    · rename_i n e z
      have u:Cl P t=some true:=by simp[Cl,z]
      simp only[Ahn,Ag,AhL,Aho,AP]at h
      obtain⟨s,hs,s',⟨i,hi,rfl⟩,E,rfl⟩:=h
      obtain⟨a,rfl,rfl⟩:=Z.agg u
      obtain⟨b,rfl,rfl⟩:=N.agg u
      have a1:P.cellsOf e=s.length:=by simp[Program.cellsOf,hi,E]
      rw[<-Nat.add_assoc,run_equalIn_array w (d+k) a b z hi,a1,List.range_eq_range']
      exact JC hs (Ks k e s hs d) hi E.symm S a b n 0 xs ys r (by simpa using Q) (by simpa using Y) W
    · cases h
end
end Go.Mx
