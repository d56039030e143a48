/- The machine: what its values stand for, the checked translation, soundness (part 1). Nothing here speaks of a program. -/
import Derived.Test.YtlhjjcaifenlbaaGreatDoorRng
import Derived.Calls
import Derived.Laws.AppendOwn
import Derived.Below
import GoSem.Core.Layout
import GoSem.Machine.Frame
import Derived.Laws.StructEq
import Derived.Laws.Unary
import Derived.Laws.Slices
import Derived.Laws.Strings3
import Derived.ChangeKeysEq
set_option linter.unusedSimpArgs false
set_option linter.unusedVariables false
set_option linter.unusedSectionVars false
namespace Go.Mx
section
variable {α:Type}
def Uni (n:Nat)(es:List (List α)):Prop:=∀e,e∈es->e.length=n
variable {n:Nat} {e:List α} {es:List (List α)}
theorem Uni.tail (h:Uni n (e::es)):Uni n es:=fun x u=>h x (by simp[u])
theorem Uni.head (h:Uni n (e::es)):e.length=n:=h e (by simp)
theorem Uni.len:∀ {es:List (List α)},Uni n es->es.flatten.length=es.length*n
  | [],_=>by simp
  | e::es,h=>by simp[h.head,h.tail.len,AhU];omega
theorem Uni.append {z:List (List α)}(h:Uni n es)(k:Uni n z):Uni n (es++z):=fun x E=>by
  rcases AhV.1 E with u|u
  · exact h x u
  · exact k x u
theorem Uni.take (h:Uni n es)(k:Nat):Uni n (es.take k):=fun x u=>h x (Ain u)
theorem Uni.drop (h:Uni n es)(k:Nat):Uni n (es.drop k):=fun x u=>h x (List.mem_of_mem_drop u)
variable {k:Nat}
theorem Uni.replicate (h:e.length=n):Uni n (List.replicate k e):=fun x u=>by rw[(List.mem_replicate.1 u).2];exact h
variable {i:Nat}
theorem Uni.get (h:Uni n es)(u:es[i]? = some e):e.length=n:=h e (Ahm u)
variable {f:List α}
theorem KF (h:e.length=n):(e++f).drop (k+n)=f.drop k:=by
  rw[Nat.add_comm,<-Aiw,<-h,List.drop_left]
theorem OT (h:e.length=n):(e++f).take (k+n)=e++f.take k:=by
  rw[Nat.add_comm,List.take_add,<-h,List.take_left,List.drop_left]
theorem Iu {n:Nat}:∀ {es:List (List α)},Uni n es -> ∀k,(es.drop k).flatten=es.flatten.drop (k*n)
  | [],_,k=>by simp
  | e::es,h,0=>by simp
  | e::es,h,k+1=>by
    rw[List.drop_succ_cons,Iu h.tail k,Aic,AhU,Nat.one_mul,KF h.head]
theorem Is {n:Nat}:∀ {es:List (List α)},Uni n es -> ∀k,(es.take k).flatten=es.flatten.take (k*n)
  | [],_,k=>by simp
  | e::es,h,0=>by simp
  | e::es,h,k+1=>by
    rw[List.take_succ_cons,Aic,Is h.tail k,Aic,AhU,Nat.one_mul,OT h.head]
theorem Hz (h:Uni n es)(u:es[i]? = some e):e=(es.flatten.drop (i*n)).take n:=by
  have z:=(Ahg.1 u).1
  rw[<-Iu h,AiC z,Aic]
  have hi:es[i]=e:=(Ahg.1 u).2
  rw[hi,List.take_append,Ahz (by rw[h.get u];exact Ahk _),h.get u]
  simp
theorem Dm (h:Uni n es)(z:es[i]? = some e){j:Nat}{x:α}(u:e[j]? = some x):es.flatten[i*n+j]? = some x:=by
  rw[Hz h z]at u
  rw[AhN]at u
  split at u
  · rwa[AiI]at u
  · cases u
theorem PE (E:0<n)(h:Uni n es){p:Nat}{x:α}(z:es.flatten[p]? = some x):∃e,es[p / n]? = some e/\e[p%n]? = some x:=by
  have J:p<es.length*n:=by rw[<-h.len];exact(Ahg.1 z).1
  have u:p / n<es.length:=(Nat.div_lt_iff_lt_mul E).2 J
  refine⟨es[p / n],Ahh u,?_⟩
  rw[Hz h (Ahh u),AhN,Ahl (Nat.mod_lt _ E),AiI]
  have:p / n*n+p%n=p:=by rw[AiK];exact Nat.div_add_mod p n
  rw[this];exact z
theorem Gb (n:Nat):∀(k:Nat) (l:List α),(Ct n k l).length=k
  | 0,_=>rfl
  | k+1,l=>by simp[Ct,Gb n k]
theorem Ga (n:Nat):∀(k:Nat) (l:List α),k*n<=l.length->Uni n (Ct n k l)
  | 0,_,_=>fun _ h=>by simp[Ct]at h
  | k+1,l,h=>fun x u=>by
    rw[AhU,Nat.one_mul]at h
    simp only[Ct,AhF]at u
    rcases u with rfl|u
    · simp;omega
    · exact Ga n k (l.drop n) (by simp;omega) x u
theorem EZ (n:Nat):∀(k:Nat) (l:List α),k*n<=l.length->(Ct n k l).flatten=l.take (k*n)
  | 0,_,_=>by simp[Ct]
  | k+1,l,h=>by
    rw[AhU,Nat.one_mul]at h ⊢
    rw[Ct,Aic,EZ n k _ (by simp;omega),Nat.add_comm (k*n) n,List.take_add]
theorem By:∀ {l:List α} {i:Nat} {x:α} {u:List α},AO l i x=some u->i<l.length/\u=l.set i x
  | [],i,x,u,h=>by simp[AO]at h
  | y::l,0,x,u,h=>by simp[AO]at h;simp[<-h]
  | y::l,i+1,x,u,h=>by
    simp only[AO,Ahd,Ahe]at h
    obtain⟨m,z,rfl⟩:=h
    obtain⟨E,rfl⟩:=By z
    exact⟨by simp;omega,rfl⟩
theorem Uni.set (h:Uni n es)(E:e.length=n):Uni n (es.set i e):=fun x z=>by
  rcases List.mem_or_eq_of_mem_set z with u|u
  · exact h x u
  · rw[u];exact E
theorem Ku {n:Nat}:∀ {es:List (List α)},Uni n es -> ∀ {i:Nat} {e:List α},i<es.length->e.length=n->(es.set i e).flatten=es.flatten.take (i*n)++e++es.flatten.drop (i*n+n)
  | [],_,i,e,hi,_=>by simp at hi
  | x::es,h,0,e,_,he=>by
    have u:=KF (k:=0) (f:=es.flatten) h.head
    rw[List.set_cons_zero,Aic,Aic,Nat.zero_mul,u]
    simp
  | x::es,h,i+1,e,hi,he=>by
    rw[List.set_cons_succ,Aic,Ku h.tail (by simpa using hi) he,Aic,AhU,Nat.one_mul,OT h.head,
      show i*n+n+n=(i*n+n)+n from rfl,KF h.head]
    simp only[Aip]
end
end Go.Mx
namespace Go.Mx
inductive RepI (w:World) (S:Nat->Prop):I->Value->Prop where
  | b (x:Bool):RepI w S (.b x) (.bool x)
  | i (k:IntKind) (n:Int):RepI w S (.i k n) (.int k n)
  | s (x:ByteArray) (l:List Nat) (h:x.data.toList.map UInt8.toNat=l):RepI w S (.s l) (.string x)
  | nlp:RepI w S (.nl 0) (.pointer none)
  | nlm:RepI w S (.nl 1) (.map none)
  | nlf:RepI w S (.nl 2) .nilFunc
  | nli:RepI w S (.nl 3) .nilIface
  | nls:RepI w S (.nl 4) (.slice none 0 0)
  | er (t:TypeId) (v:Value):RepI w S .er (.iface t v)
  | sl (es:LT) (a:Option Addr) (cap esz b off:Nat) (cs:Nat->Nat->Value)
      (hcap:es.length<=cap) (hm:cap<=maxLen) (hsz:∀e,e∈es->e.length=esz)
      (ha:es≠[]->a=some ⟨b,off,none⟩/\S b) (hnn:∃p,a=some p)
      (hc:∀i e j x,es[i]? = some e->e[j]? = some x->w.cell? ⟨b,off+(i*esz+j),none⟩=some (cs i j))
      (hr:∀i e j x,es[i]? = some e->e[j]? = some x->RepI w S x (cs i j)):RepI w S (.sl es) (.slice a es.length cap)
  | pt (xs:List I) (b off:Nat) (cs:Nat->Value) (hS:S b)
      (hc:∀(j:Nat) x,xs[j]? = some x->w.cell? ⟨b,off+j,none⟩=some (cs j))
      (hr:∀(j:Nat) x,xs[j]? = some x->RepI w S x (cs j)):RepI w S (.pt xs) (.pointer (some ⟨b,off,none⟩))
  | ag (xs:List I) (cs:Array Value) (hl:cs.size=xs.length) (c:Nat->Value)
      (hc:∀(j:Nat) x,xs[j]? = some x->cs[j]? = some (c j)) (hr:∀(j:Nat) x,xs[j]? = some x->RepI w S x (c j)):RepI w S (.ag xs) (.agg cs)
  | mp (es:LT) (r:Nat) (ents:Array MapEntry) (clock:Nat) (ks xs:Nat->Value) (hS:S r) (hw:w.heap[r]? = some (.map ents clock)) (hl:ents.size=es.length)
      (hp:∀(j:Nat) e,es[j]? = some e -> ∃k x,e=[k,x])
      (hk:∀(j:Nat) k x,es[j]? = some [k,x]->(ents[j]?).map (·.key)=some (ks j)) (hx:∀(j:Nat) k x,es[j]? = some [k,x]->(ents[j]?).map (·.val)=some (xs j))
      (hkr:∀(j:Nat) k x,es[j]? = some [k,x]->RepI w S k (ks j)) (hxr:∀(j:Nat) k x,es[j]? = some [k,x]->RepI w S x (xs j)):RepI w S (.mp es) (.map (some r))
  | fn (f:Nat) (hny:f≠yN) (xs:List I) (cs:Array Value) (hl:cs.size=xs.length) (c:Nat->Value)
      (hc:∀(j:Nat) x,xs[j]? = some x->cs[j]? = some (c j)) (hr:∀(j:Nat) x,xs[j]? = some x->RepI w S x (c j)):RepI w S (.fn f xs) (.func (.func f) #[] cs)
theorem RepI.mono {w w':World}{S S':Nat->Prop}(hw:∀b,S b->w'.heap[b]? = w.heap[b]?)(hS:∀b,S b->S' b){x:I}{c:Value}(h:RepI w S x c):RepI w' S' x c:=by
  have u:∀b o,S b->w'.cell? ⟨b,o,none⟩=w.cell? ⟨b,o,none⟩:=fun b o h=>World.cell?_of_block (hw b h)
  induction h with
  | b x=>exact .b x
  | i k n=>exact .i k n
  | s x l h=>exact .s x l h
  | nlp=>exact .nlp
  | nlm=>exact .nlm
  | nlf=>exact .nlf
  | nli=>exact .nli
  | nls=>exact .nls
  | er t v=>exact .er t v
  | sl es a cap esz b off cs Y hm hsz ha hnn E hr z =>
    refine .sl es a cap esz b off cs Y hm hsz (fun Z=>⟨(ha Z).1,hS _ (ha Z).2⟩) hnn (fun i e j x hi hj=>?_) z
    rw[u _ _ (ha (by rintro rfl;simp at hi)).2]
    exact E i e j x hi hj
  | pt xs b off cs W E hr z=>exact .pt xs b off cs (hS _ W) (fun j x hj=>by rw[u _ _ W];exact E j x hj) z
  | ag xs cs Q c E hr z=>exact .ag xs cs Q c E z
  | mp es r N J ks xs U hwr Q hp hk hx hkr hxr ihk ihx=>exact .mp es r N J ks xs (hS _ U) (by rw[hw _ U];exact hwr) Q hp hk hx ihk ihx
  | fn f hny xs cs Q c E hr z=>exact .fn f hny xs cs Q c E z
theorem AT {α:Type}:∀(l:List α) (n:Nat),nth l n=l[n]?
  | [],n=>by simp[nth]
  | x::l,0=>rfl
  | x::l,n+1=>by simp[nth,AT l n]
theorem Ag {α:Type}{b:Bool}{x:Option α}{y:α}:gd b x=some y↔b=true/\x=some y:=by cases b <;> simp[gd]
def At (w:World)(S:Nat->Prop)(g:Nat)(b ver esz n:Nat):Prop :=
  b=g\/(S b/\ver≠n /\ ∀j,j<ver*esz->w.cell? ⟨b,j,none⟩=w.cell? ⟨g,j,none⟩)
inductive RepV (w:World) (S:Nat->Prop) (ρ:Nat->Nat) (H:Hp):V->Value->Prop where
  | m {x:I} {c:Value} (h:RepI w S x c):RepV w S ρ H (.m x) c
  | un:RepV w S ρ H .un undef
  | ls (es:LT) (a:Option Addr) (h:RepI w S (.sl es) (.slice a es.length es.length)):RepV w S ρ H (.ls es) (.slice a es.length es.length)
  | sl (r ver esz st len:Nat) (lim:Bool) (ty:Nat) (es:L0) (base:Nat) (fz:Bool) (a:Option Addr) (cap:Nat)
      (hrow:H[r]? = some (.cs ty esz es base fz)) (h1:st+len<=ver) (h2:ver<=es.length) (h3:len<=cap) (h4:cap<=maxLen) (h5:lim=true->cap=len) (hn:∃p,a=some p)
      (hb:base<=ver->0<len -> ∃b,a=some ⟨b,st*esz,none⟩/\At w S (ρ r) b ver esz es.length)
      (ha:ver=es.length->st=0->lim=false->len=es.length->a=some ⟨ρ r,0,none⟩ /\ ∃cur mk,w.heap[ρ r]? = some (.cells cur ty mk)/\cur.size=cap*esz) :
      RepV w S ρ H (.sl r ver esz st len lim) (.slice a len cap)
  | pt (r ver ix off:Nat) (ty esz:Nat) (es:L0) (base:Nat) (fz:Bool) (p:Addr)
      (hrow:H[r]? = some (.cs ty esz es base fz)) (h2:ver<=es.length) (hx:ix<ver)
      (hb:base<=ver -> ∃b,p=⟨b,ix*esz+off,none⟩/\At w S (ρ r) b ver esz es.length):RepV w S ρ H (.pt r ver ix off) (.pointer (some p))
  | mp (r:Nat) (es:List (I×V)) (fz:Bool) (hrow:H[r]? = some (.mp es fz)):RepV w S ρ H (.mp r) (.map (some (ρ r)))
  | yl (r st:Nat) (pd:Option (Option Nat)) (E:List (Nat×V)) (ps:List Nat) (ca cb:C) (hrow:H[r]? = some (.lp st pd E ps ca cb)):RepV w S ρ H (.yl r) (.func (.yield (ρ r)) #[] #[])
  | fn (f:Nat) (hny:f≠yN) (xs:List V) (cs:Array Value) (hl:cs.size=xs.length) (c:Nat->Value)
      (hc:∀(j:Nat) x,xs[j]? = some x->cs[j]? = some (c j)) (hr:∀(j:Nat) x,xs[j]? = some x->RepV w S ρ H x (c j)):RepV w S ρ H (.fn f xs) (.func (.func f) #[] cs)
  | ag (xs:List V) (cs:Array Value) (hl:cs.size=xs.length) (c:Nat->Value)
      (hc:∀(j:Nat) x,xs[j]? = some x->cs[j]? = some (c j)) (hr:∀(j:Nat) x,xs[j]? = some x->RepV w S ρ H x (c j)):RepV w S ρ H (.ag xs) (.agg cs)
  | tu (xs:List V) (cs:Array Value) (hl:cs.size=xs.length) (c:Nat->Value)
      (hc:∀(j:Nat) x,xs[j]? = some x->cs[j]? = some (c j)) (hr:∀(j:Nat) x,xs[j]? = some x->RepV w S ρ H x (c j)):RepV w S ρ H (.tu xs) (.tuple cs)
def RepL (w:World)(S:Nat->Prop)(ρ:Nat->Nat)(H:Hp)(xs:List V)(cs:List Value):Prop :=
  cs.length=xs.length /\ ∀(j:Nat) x,xs[j]? = some x -> ∃c,cs[j]? = some c/\RepV w S ρ H x c
section
variable {w:World} {S:Nat->Prop} {ρ:Nat->Nat} {H:Hp}
theorem RepL.nil:RepL w S ρ H [] []:=⟨rfl,by simp⟩
variable {x:V} {c:Value} {xs:List V} {cs:List Value}
theorem RepL.cons (h:RepV w S ρ H x c)(hs:RepL w S ρ H xs cs):RepL w S ρ H (x::xs) (c::cs):=by
  refine⟨by simp[hs.1],fun j y u=>?_⟩
  cases j with
  | zero=>simp at u;subst u;exact⟨c,by simp,h⟩
  | succ j=>simpa using hs.2 j y (by simpa using u)
theorem RepL.head (h:RepL w S ρ H (x::xs) (c::cs)):RepV w S ρ H x c:=by
  obtain⟨E,u,z⟩:=h.2 0 x (by simp)
  simp at u
  exact u ▸ z
theorem RepL.tail (h:RepL w S ρ H (x::xs) (c::cs)):RepL w S ρ H xs cs :=
  ⟨by simpa using h.1,fun j y u=>by simpa using h.2 (j+1) y (by simpa using u)⟩
theorem RepL.inv_nil (h:RepL w S ρ H [] cs):cs=[]:=AhJ (by simpa using h.1)
theorem RepL.inv_cons (h:RepL w S ρ H (x::xs) cs):∃c r,cs=c::r/\RepV w S ρ H x c/\RepL w S ρ H xs r:=by
  cases cs with
  | nil=>have:=h.1;simp at this
  | cons c r=>exact⟨c,r,rfl,h.head,h.tail⟩
theorem RepL.append {ys:List V}{u:List Value}(h:RepL w S ρ H xs cs)(k:RepL w S ρ H ys u):RepL w S ρ H (xs++ys) (cs++u):=by
  induction xs generalizing cs with
  | nil=>rw[h.inv_nil];exact k
  | cons x xs E=>obtain⟨c,r,rfl,J,z⟩:=h.inv_cons;exact .cons J (E z)
theorem RepL.take (h:RepL w S ρ H xs cs)(n:Nat):RepL w S ρ H (xs.take n) (cs.take n):=by
  induction xs generalizing cs n with
  | nil=>rw[h.inv_nil];simpa using RepL.nil
  | cons x xs z =>
    obtain⟨c,r,rfl,E,u⟩:=h.inv_cons
    cases n with
    | zero=>simpa using RepL.nil
    | succ n=>exact .cons E (z u n)
theorem RepL.drop (h:RepL w S ρ H xs cs)(n:Nat):RepL w S ρ H (xs.drop n) (cs.drop n):=by
  induction xs generalizing cs n with
  | nil=>rw[h.inv_nil];simpa using RepL.nil
  | cons x xs z =>
    obtain⟨c,r,rfl,E,u⟩:=h.inv_cons
    cases n with
    | zero=>simpa using h
    | succ n=>simpa using z u n
theorem RepL.of_skolem {cs:Array Value}(hl:cs.size=xs.length)(c:Nat->Value) 
    (z:∀(j:Nat) x,xs[j]? = some x->cs[j]? = some (c j)) (E:∀(j:Nat) x,xs[j]? = some x->RepV w S ρ H x (c j)):RepL w S ρ H xs cs.toList :=
  ⟨by simpa using hl,fun j x u=>⟨c j,by simpa using z j x u,E j x u⟩⟩
theorem RepL.skolem (h:RepL w S ρ H xs cs):∃c:Nat->Value,(∀(j:Nat) x,xs[j]? = some x->cs[j]? = some (c j))/\(∀(j:Nat) x,xs[j]? = some x->RepV w S ρ H x (c j)):=by
  refine⟨fun j=>cs.getD j undef,fun j x z=>?_,fun j x z=>?_⟩
  · obtain⟨c,u,_⟩:=h.2 j x z
    simp[u]
  · obtain⟨c,u,E⟩:=h.2 j x z
    simpa[u]using E
theorem RepL.toAg {cs:Array Value}(h:RepL w S ρ H xs cs.toList):RepV w S ρ H (.ag xs) (.agg cs):=by
  obtain⟨c,u,E⟩:=h.skolem
  exact .ag xs cs (by simpa using h.1) c (fun j x z=>by simpa using u j x z) E
theorem RepL.toTu {cs:Array Value}(h:RepL w S ρ H xs cs.toList):RepV w S ρ H (.tu xs) (.tuple cs):=by
  obtain⟨c,u,E⟩:=h.skolem
  exact .tu xs cs (by simpa using h.1) c (fun j x z=>by simpa using u j x z) E
theorem RepL.toFn {f:Nat}(u:f≠yN){cs:Array Value}(h:RepL w S ρ H xs cs.toList):RepV w S ρ H (.fn f xs) (.func (.func f) #[] cs):=by
  obtain⟨c,z,J⟩:=h.skolem
  exact .fn f u xs cs (by simpa using h.1) c (fun j x E=>by simpa using z j x E) J
theorem RepV.agL (h:RepV w S ρ H (.ag xs) c):∃cs,c=.agg cs/\RepL w S ρ H xs cs.toList:=by
  cases h with
  | ag xs cs E c u z=>exact⟨cs,rfl,.of_skolem E c u z⟩
theorem RepV.tuL (h:RepV w S ρ H (.tu xs) c):∃cs,c=.tuple cs/\RepL w S ρ H xs cs.toList:=by
  cases h with
  | tu xs cs E c u z=>exact⟨cs,rfl,.of_skolem E c u z⟩
theorem RepV.fnL {f:Nat}(h:RepV w S ρ H (.fn f xs) c):f≠yN /\ ∃cs,c=.func (.func f) #[] cs/\RepL w S ρ H xs cs.toList:=by
  cases h with
  | fn f u xs cs J c z E=>exact⟨u,cs,rfl,.of_skolem J c z E⟩
theorem RepV.imm {x:I}(h:RepV w S ρ H (.m x) c):RepI w S x c:=by cases h;assumption
theorem RepL.ofI {xs:List I}{cs:Array Value}(hl:cs.size=xs.length)(c:Nat->Value) 
    (z:∀(j:Nat) x,xs[j]? = some x->cs[j]? = some (c j)) (E:∀(j:Nat) x,xs[j]? = some x->RepI w S x (c j)):RepL w S ρ H (xs.map .m) cs.toList:=by
  refine⟨by simpa using hl,fun j x u=>?_⟩
  rw[AhD]at u
  cases hx:xs[j]? with
  | none=>simp[hx]at u
  | some y =>
    simp only[hx,Ail,Ahe]at u
    subst u
    exact⟨c j,by simpa using z j y hx,.m (E j y hx)⟩
theorem RepL.toI {xs:List I}(h:RepL w S ρ H (xs.map .m) cs):cs.length=xs.length /\ ∃c:Nat->Value,(∀(j:Nat) x,xs[j]? = some x->cs[j]? = some (c j)) /\ ∀(j:Nat) x,xs[j]? = some x->RepI w S x (c j):=by
  obtain⟨c,z,E⟩:=h.skolem
  refine⟨by simpa using h.1,c,fun j x u=>z j (.m x) (by simp[u]),fun j x u=>(E j (.m x) (by simp[u])).imm⟩
theorem RepV.ofAgI {xs:List I}(h:RepV w S ρ H (.m (.ag xs)) c):∃cs,c=.agg cs/\RepL w S ρ H (xs.map .m) cs.toList:=by
  cases h.imm with
  | ag xs cs E c u z=>exact⟨cs,rfl,.ofI E c u z⟩
theorem RepL.toAgI {xs:List I}{cs:Array Value}(h:RepL w S ρ H (xs.map .m) cs.toList):RepV w S ρ H (.m (.ag xs)) (.agg cs):=by
  obtain⟨J,c,u,E⟩:=h.toI
  exact .m (.ag xs cs (by simpa using J) c (fun j x z=>by simpa using u j x z) E)
theorem Om:∀ {xs:List V} {l:List I},BF xs=some l->xs=l.map .m
  | [],l,h=>by simp[BF]at h;simp[h]
  | .m x::xs,l,h=>by
    simp only[BF,Ahd,Ahe]at h
    obtain⟨z,u,rfl⟩:=h
    simp[Om u]
  | .un::_,_,h=>by simp[BF]at h
  | .ls _::_,_,h=>by simp[BF]at h
  | .sl .. :: _,_,h=>by simp[BF]at h
  | .pt .. :: _,_,h=>by simp[BF]at h
  | .fa .. :: _,_,h=>by simp[BF]at h
  | .mp _::_,_,h=>by simp[BF]at h
  | .fn .. :: _,_,h=>by simp[BF]at h
  | .ag _::_,_,h=>by simp[BF]at h
  | .tu _::_,_,h=>by simp[BF]at h
theorem RepL.mkAg {cs:Array Value}(h:RepL w S ρ H xs cs.toList):RepV w S ρ H (mkAg xs) (.agg cs):=by
  unfold Mx.mkAg
  cases hx:BF xs with
  | none=>exact h.toAg
  | some l=>rw[Om hx]at h;exact h.toAgI
theorem RepV.cells {v:V}{l:List V}(h:RepV w S ρ H v c)(hl:Ay v=some l):RepL w S ρ H l c.cells.toList:=by
  have one:∀ {v:V} {c:Value},RepV w S ρ H v c->c.cells=#[c]->RepL w S ρ H [v] c.cells.toList:=fun h e=>by rw[e];exact .cons h .nil
  cases h with
  | m hI=>cases hI with
    | ag xs cs z c N J=>simp[Ay]at hl;subst hl;exact RepL.ofI z c N J
    | b x=>simp[Ay]at hl;subst hl;exact one (.m (.b x)) rfl
    | i k n=>simp[Ay]at hl;subst hl;exact one (.m (.i k n)) rfl
    | s x l' h=>simp[Ay]at hl;subst hl;exact one (.m (.s x l' h)) rfl
    | nlp=>simp[Ay]at hl;subst hl;exact one (.m .nlp) rfl
    | nlm=>simp[Ay]at hl;subst hl;exact one (.m .nlm) rfl
    | nlf=>simp[Ay]at hl;subst hl;exact one (.m .nlf) rfl
    | nli=>simp[Ay]at hl;subst hl;exact one (.m .nli) rfl
    | nls=>simp[Ay]at hl;subst hl;exact one (.m .nls) rfl
    | er t v=>simp[Ay]at hl;subst hl;exact one (.m (.er t v)) rfl
    | sl es a cap Q b off cs hcap hm hsz ha hnn N J=>simp[Ay]at hl;subst hl;exact one (.m (.sl es a cap Q b off cs hcap hm hsz ha hnn N J)) rfl
    | pt xs b off cs hS N J=>simp[Ay]at hl;subst hl;exact one (.m (.pt xs b off cs hS N J)) rfl
    | mp es r a0 Z ks xs hS hw z hp hk hx hkr hxr=>simp[Ay]at hl;subst hl;exact one (.m (.mp es r a0 Z ks xs hS hw z hp hk hx hkr hxr)) rfl
    | fn f Y xs cs z c N J=>simp[Ay]at hl;subst hl;exact one (.m (.fn f Y xs cs z c N J)) rfl
  | un=>simp[Ay]at hl
  | ls es a h=>simp[Ay]at hl;subst hl;exact one (.ls es a h) rfl
  | sl r W Q st len lim ty es U fz a cap u h1 h2 h3 h4 h5 hn hb ha=>simp[Ay]at hl;subst hl;exact one (.sl r W Q st len lim ty es U fz a cap u h1 h2 h3 h4 h5 hn hb ha) rfl
  | pt r W ix off ty Q es U fz p u h2 hx hb=>simp[Ay]at hl;subst hl;exact one (.pt r W ix off ty Q es U fz p u h2 hx hb) rfl
  | mp r es fz u=>simp[Ay]at hl;subst hl;exact one (.mp r es fz u) rfl
  | yl r st pd E ps ca cb u=>simp[Ay]at hl;subst hl;exact one (.yl r st pd E ps ca cb u) rfl
  | fn f Y xs cs z c N J=>simp[Ay]at hl;subst hl;exact one (.fn f Y xs cs z c N J) rfl
  | ag xs cs z c N J=>simp[Ay]at hl;subst hl;exact RepL.of_skolem z c N J
  | tu xs cs z c N J=>simp[Ay]at hl
def stM:Nat->Option LoopState
  | 0=>some .ready
  | 1=>some .busy
  | 2=>some .done
  | 3=>some .exhausted
  | _=>none
def pdM:Option (Option Nat)->Option Code
  | none=>none
  | some none=>some .ret
  | some (some id)=>some (.exit id)
def Win (n:Nat)(mk:Nat×Nat):Prop:=mk=(0,0)\/n<=mk.1
def Brn (ents:Array MapEntry)(clock:Nat):Prop:=(∀x,x∈ents.toList->x.born<clock)/\(ents.toList.map (·.born)).Nodup
def RowOk (w:World)(S:Nat->Prop)(ρ:Nat->Nat)(H:Hp)(r:Nat):Row->Prop
  | .cs ty esz es base fz=>base<=es.length/\0<esz/\(∀e,e∈es->e.length=esz)/\(fz=true->S (ρ r))/\(fz=false -> ¬S (ρ r)) /\
      ∃cur cap mk,w.heap[ρ r]? = some (.cells cur ty mk)/\(fz=false->Win cur.size mk)/\cur.size=cap*esz/\es.length<=cap/\cap<=maxLen /\
        RepL w S ρ H es.flatten (cur.toList.take (es.length*esz))
  | .mp es fz=>(fz=true->S (ρ r))/\(fz=false -> ¬S (ρ r)) /\ ∃ents clock,w.heap[ρ r]? = some (.map ents clock)/\(ents.size=es.length/\Brn ents clock) /\
        ∀(j:Nat) k x,es[j]? = some (k,x) -> ∃ent,ents[j]? = some ent/\RepI w S k ent.key/\RepV w S ρ H x ent.val
  | .lp st pd E ps ca cb=>¬S (ρ r) /\ ∃(rec:Loop) (hi:Hint) (dr:Nat->List Nat),w.heap[ρ r]? = some (.loop rec)/\rec.params.toList=ps/\RelC hi dr rec.assign ca/\RelC hi dr rec.body cb/\wfC rec.tmps.size ca=true/\wfC rec.tmps.size cb=true /\
        (∀p,p∈ps->hi.loc p=false/\p<rec.tmps.size)/\stM st=some rec.state/\pdM pd=rec.pending /\ ∀n v,Cf E n=some v->hi.loc n=false/\AB v=true/\RepV w S ρ H v (rec.tmps.getD n undef)
structure Ok (w:World)(S:Nat->Prop)(ρ β:Nat->Nat)(M:Mem):Prop where
  rows:∀r row,M.H[r]? = some row->RowOk w S ρ M.H r row
  boxes:∀d cs,getB M.B d=some cs -> ∃cur T,w.heap[β d]? = some (.cells cur T (0,0))/\RepL w S ρ M.H cs cur.toList
  inj:∀r r',r<M.H.length->r'<M.H.length->ρ r=ρ r'->r=r'
  bij:∀d d',(getB M.B d).isSome->(getB M.B d').isSome->β d=β d'->d=d'
  rb:∀r d,r<M.H.length->(getB M.B d).isSome->ρ r≠β d
  bns:∀d,(getB M.B d).isSome -> ¬S (β d)
  lt:∀b,S b->b<w.heap.size
variable {β:Nat->Nat} {M:Mem}
theorem Ok.rlt {w:World}{S:Nat->Prop}{ρ:Nat->Nat}(h:Ok w S ρ β M){r:Nat}(Z:r<M.H.length):ρ r<w.heap.size:=by
  obtain⟨row,u⟩:∃row,M.H[r]? = some row:=⟨_,Ahh Z⟩
  have lt:∀o,w.heap[ρ r]? = some o->ρ r<w.heap.size:=fun o ho=>(AhO.1 ho).1
  cases row with
  | cs ty U es Q W=>obtain⟨_,_,_,_,_,cur,cap,mk,z,_⟩:=h.rows r _ u;exact lt _ z
  | mp es W=>obtain⟨_,_,N,J,z,_⟩:=h.rows r _ u;exact lt _ z
  | lp st pd E ps ca cb=>obtain⟨_,Y,_,_,z,_⟩:=h.rows r _ u;exact lt _ z
theorem Ok.blt {w:World}{S:Nat->Prop}{ρ:Nat->Nat}(h:Ok w S ρ β M){d:Nat}(E:(getB M.B d).isSome):β d<w.heap.size:=by
  obtain⟨cs,u⟩:=Aii.1 E
  obtain⟨cur,T,z,_⟩:=h.boxes d cs u
  exact(AhO.1 z).1
structure Gw (w w':World)(row:Option Nat):Prop extends World.grownBy w w' row where
  drawn:drawM=true->w.drawn<=w'.drawn
theorem Gw.alloc (w:World)(x:Obj)(row:Option Nat):Gw w (w.alloc x) row:=⟨World.grownBy_alloc w x row,fun _=>Ahk _⟩
structure Stp (w:World)(S:Nat->Prop)(ρ β:Nat->Nat)(M:Mem)(w':World)(S':Nat->Prop)(ρ':Nat->Nat)(H':Hp):Prop where
  vals:∀v c,RepV w S ρ M.H v c->RepV w' S' ρ' H' v c
  stab:∀b,S b->S' b
  heap:∀b,S b->w'.heap[b]? = w.heap[b]?
  keep:∀b,b<w.heap.size->(∀r,r<M.H.length->b≠ρ r)->(∀d,(getB M.B d).isSome->b≠β d)->w'.heap[b]? = w.heap[b]?
  news:∀b,S' b->S b\/w.heap.size<=b \/ ∃r,r<M.H.length/\b=ρ r
  rown:∀r,r<H'.length->(∃q,q<M.H.length/\ρ' r=ρ q)\/w.heap.size<=ρ' r
  size:w.heap.size<=w'.heap.size
  os:w'.os=w.os
  tape:w'.tape=w.tape
  output:w'.output=w.output
  drawn:drawM=true->w.drawn<=w'.drawn
variable {w':World} {S':Nat->Prop} {ρ':Nat->Nat}
theorem Stp.imm {w:World}{S:Nat->Prop}{ρ:Nat->Nat}{H':Hp}(h:Stp w S ρ β M w' S' ρ' H'){x:I}(u:RepI w S x c):RepI w' S' x c :=
  (h.vals (.m x) c (.m u)).imm
theorem Stp.list {w:World}{S:Nat->Prop}{ρ:Nat->Nat}{H':Hp}(h:Stp w S ρ β M w' S' ρ' H')(u:RepL w S ρ M.H xs cs):RepL w' S' ρ' H' xs cs :=
  ⟨u.1,fun j x E=>let ⟨c,z,J⟩:=u.2 j x E;⟨c,z,h.vals _ _ J⟩⟩
theorem Stp.refl (w:World)(S:Nat->Prop)(ρ β:Nat->Nat)(M:Mem):Stp w S ρ β M w S ρ M.H :=
  ⟨fun _ _ h=>h,fun _ h=>h,fun _ _=>rfl,fun _ _ _ _=>rfl,fun _ h=>.inl h,fun r h=>.inl ⟨r,h,rfl⟩,Ahk _,rfl,rfl,rfl,fun _=>Ahk _⟩
end
end Go.Mx
namespace Go.Mx
structure RowsTo (w:World)(S:Nat->Prop)(ρ:Nat->Nat)(H:Hp)(w':World)(S':Nat->Prop)(ρ':Nat->Nat)(H':Hp):Prop where
  hw:∀b,S b->w'.heap[b]? = w.heap[b]?
  hS:∀b,S b->S' b
  cs:∀r ty esz es base fz,H[r]? = some (.cs ty esz es base fz) -> ∃es' base' fz',H'[r]? = some (.cs ty esz es' base' fz')/\es.length<=es'.length/\base<=base' /\
    (∀b ver,ver<=es.length->base'<=ver->At w S (ρ r) b ver esz es.length->At w' S' (ρ' r) b ver esz es'.length) /\
    (es'.length=es.length->ρ' r=ρ r /\ ∀cur mk,w.heap[ρ r]? = some (.cells cur ty mk) -> ∃cur' mk',w'.heap[ρ r]? = some (.cells cur' ty mk')/\cur'.size=cur.size)
  mp:∀r es fz,H[r]? = some (.mp es fz)->ρ' r=ρ r /\ ∃es' fz',H'[r]? = some (.mp es' fz')
  lp:∀r st pd E ps ca cb,H[r]? = some (.lp st pd E ps ca cb)->ρ' r=ρ r /\ ∃st' pd',H'[r]? = some (.lp st' pd' E ps ca cb)
theorem RepV.mono {w w':World}{S S':Nat->Prop}{ρ ρ':Nat->Nat}{H H':Hp}(J:RowsTo w S ρ H w' S' ρ' H'){v:V}{c:Value}(h:RepV w S ρ H v c):RepV w' S' ρ' H' v c:=by
  induction h with
  | m hI=>exact .m (hI.mono J.hw J.hS)
  | un=>exact .un
  | ls es a hI=>exact .ls es a (hI.mono J.hw J.hS)
  | sl r Y Z st len lim ty es W fz a cap z h1 h2 h3 h4 h5 hn hb ha =>
    obtain⟨a1,N,U,u,hlen,hbase,hat,a0⟩:=J.cs r ty Z es W fz z
    refine .sl r Y Z st len lim ty a1 N U a cap u h1 (by omega) h3 h4 h5 hn (fun hv hl=>?_) (fun hv hs hl he=>?_)
    · obtain⟨b,hab,hA⟩:=hb (by omega) hl
      exact⟨b,hab,hat b Y h2 hv hA⟩
    · obtain⟨Q,hcur⟩:=a0 (by omega)
      obtain⟨hab,cur,mk,hh,hsz⟩:=ha (by omega) hs hl (by omega)
      obtain⟨cur',mk',hh',hsz'⟩:=hcur cur mk hh
      exact⟨by rw[Q];exact hab,cur',mk',by rw[Q];exact hh',by rw[hsz',hsz]⟩
  | pt r Y ix off ty Z es W fz p z h2 hx hb =>
    obtain⟨a1,N,U,u,hlen,hbase,hat,a0⟩:=J.cs r ty Z es W fz z
    refine .pt r Y ix off ty Z a1 N U p u (by omega) hx (fun hv=>?_)
    obtain⟨b,hp,hA⟩:=hb (by omega)
    exact⟨b,hp,hat b Y h2 hv hA⟩
  | mp r es fz z =>
    obtain⟨Q,a1,U,u⟩:=J.mp r es fz z
    rw[<-Q]
    exact .mp r a1 U u
  | yl r st pd E ps ca cb z =>
    obtain⟨Q,st',pd',u⟩:=J.lp r st pd E ps ca cb z
    rw[<-Q]
    exact .yl r st' pd' E ps ca cb u
  | fn f hny xs cs hl c hc hr ih=>exact .fn f hny xs cs hl c hc ih
  | ag xs cs hl c hc hr ih=>exact .ag xs cs hl c hc ih
  | tu xs cs hl c hc hr ih=>exact .tu xs cs hl c hc ih
section
variable {w w':World} {S S':Nat->Prop} {ρ ρ' β β':Nat->Nat} {M M':Mem}
theorem RepL.mono {H H':Hp}(u:RowsTo w S ρ H w' S' ρ' H'){xs:List V}{cs:List Value}(h:RepL w S ρ H xs cs):RepL w' S' ρ' H' xs cs :=
  ⟨h.1,fun j x E=>let ⟨c,z,J⟩:=h.2 j x E;⟨c,z,J.mono u⟩⟩
theorem RowsTo.stp (u:RowsTo w S ρ M.H w' S' ρ' M'.H){row:Option Nat}(E:Gw w w' row) 
    (J:∀b,row=some b->(∃r,r<M.H.length/\b=ρ r) \/ ∃d,(getB M.B d).isSome/\b=β d)
    (z:∀b,S' b->S b\/w.heap.size<=b \/ ∃r,r<M.H.length/\b=ρ r) (Q:∀r,r<M'.H.length->(∃q,q<M.H.length/\ρ' r=ρ q)\/w.heap.size<=ρ' r):Stp w S ρ β M w' S' ρ' M'.H where
  vals _ _ h:=h.mono u
  stab:=u.hS
  heap:=u.hw
  keep b hb hr hd:=E.block b hb (fun e=>by
    rcases J b e.symm with ⟨r,U,e⟩|⟨d,N,e⟩
    · exact hr r U e
    · exact hd d N e)
  news:=z
  rown:=Q
  size:=E.size
  os:=E.os
  tape:=E.tape
  output:=E.output
  drawn:=E.drawn
variable {g:Nat}
theorem At.same {b ver u n:Nat}(Q:∀b,S b->w'.heap[b]? = w.heap[b]?)(N:∀b,S b->S' b)(W:w'.heap[g]? = w.heap[g]?)(h:At w S g b ver u n):At w' S' g b ver u n:=by
  rcases h with h|⟨z,U,J⟩
  · exact .inl h
  · refine .inr ⟨N b z,U,fun j E=>?_⟩
    rw[World.cell?_of_block (a:=⟨b,j,none⟩) (Q b z),World.cell?_of_block (a:=⟨g,j,none⟩) W]
    exact J j E
variable {row:Row}
theorem RowOk.same {H H':Hp}{r:Nat}(z:RowsTo w S ρ H w' S' ρ' H')(u:ρ' r=ρ r)(hg:w'.heap[ρ r]? = w.heap[ρ r]?)(hn:S' (ρ r)->S (ρ r))(h:RowOk w S ρ H r row):RowOk w' S' ρ' H' r row:=by
  cases row with
  | cs ty esz es base fz =>
    obtain⟨h1,h2,h3,U,h5,cur,cap,mk,W,h7,Z,h9,N,J⟩:=h
    refine⟨h1,h2,h3,fun e=>by rw[u];exact z.hS _ (U e),fun e hs=>h5 e (hn (u ▸ hs)),cur,cap,mk,by rw[u,hg];exact W,h7,Z,h9,N,J.1,fun j x hj=>?_⟩
    obtain⟨c,hc,hr⟩:=J.2 j x hj
    exact⟨c,hc,hr.mono z⟩
  | mp es fz =>
    obtain⟨U,h5,Y,Q,W,h7,Z⟩:=h
    refine⟨fun e=>by rw[u];exact z.hS _ (U e),fun e hs=>h5 e (hn (u ▸ hs)),Y,Q,by rw[u,hg];exact W,h7,fun j k x hj=>?_⟩
    obtain⟨ent,a0,hk,hx⟩:=Z j k x hj
    exact⟨ent,a0,hk.mono z.hw z.hS,hx.mono z⟩
  | lp st pd E ps ca cb =>
    obtain⟨h1,rec,hi,dr,h2,h3,U,h5,W,h7,Z,h9,N,J⟩:=h
    exact⟨fun hs=>h1 (hn (u ▸ hs)),rec,hi,dr,by rw[u,hg];exact h2,h3,U,h5,W,h7,Z,h9,N,fun n v hv=>let ⟨k1,k2,k3⟩:=J n v hv;⟨k1,k2,k3.mono z⟩⟩
theorem RowsTo.grow (J:Ok w S ρ β M)(hg:Gw w w' none)(Y:∀b,S b->S' b):RowsTo w S ρ M.H w' S' ρ M.H:=by
  have z:∀b,b<w.heap.size->w'.heap[b]? = w.heap[b]?:=fun b N=>hg.block b N (by simp)
  refine⟨fun b N=>z b (J.lt b N),Y,fun r ty Z es Q W u=>?_,fun r es W u=>⟨rfl,es,W,u⟩,fun r st pd E ps ca cb u=>⟨rfl,st,pd,u⟩⟩
  have U:=J.rlt (Ahg.1 u).1
  exact⟨es,Q,W,u,Ahk _,Ahk _,fun b ver _ _ hA=>hA.same (fun b N=>z b (J.lt b N)) Y (z _ U),fun _=>⟨rfl,fun cur mk h=>⟨cur,mk,by rw[z _ U];exact h,rfl⟩⟩⟩
theorem Ok.grow (u:Ok w S ρ β M)(Z:Gw w w' none)(hS:∀b,S b->S' b)(W:∀b,S' b->S b\/w.heap.size<=b)(hl:∀b,S' b->b<w'.heap.size):
    Ok w' S' ρ β M/\Stp w S ρ β M w' S' ρ M.H:=by
  have J:=RowsTo.grow u Z hS
  have N:∀b,b<w.heap.size->w'.heap[b]? = w.heap[b]?:=fun b U=>Z.block b U (by simp)
  refine⟨⟨fun r row E=>?_,fun d cs Q=>?_,u.inj,u.bij,u.rb,fun d Q Y=>?_,hl⟩,J.stp (M:=M) (M':=M) Z (by simp) (fun b U=>(W b U).imp id .inl) fun r h=>.inl ⟨r,h,rfl⟩⟩
  · have z:=u.rlt (Ahg.1 E).1
    exact(u.rows r row E).same J rfl (N _ z) (fun Y=>(W _ Y).resolve_right (by omega))
  · have z:=u.blt (d:=d) (by simp[Q])
    obtain⟨cur,T,hh,hr⟩:=u.boxes d cs Q
    exact⟨cur,T,by rw[N _ z];exact hh,hr.mono J⟩
  · have z:=u.blt Q
    exact u.bns d Q ((W _ Y).resolve_right (by omega))
theorem Ok.newRow (z:Ok w S ρ β M)(hg:Gw w w' none)(hS:∀b,S b->S' b)(hn:∀b,S' b->S b\/w.heap.size<=b)(hl:∀b,S' b->b<w'.heap.size) 
    (hgn:w.heap.size<=g) (hrow:RowsTo w S ρ M.H w' S' (fun r=>if r=M.H.length then g else ρ r) (M.H++[row])->RowOk w' S' (fun r=>if r=M.H.length then g else ρ r) (M.H++[row]) M.H.length row) :
    Ok w' S' (fun r=>if r=M.H.length then g else ρ r) β { M with H:=M.H++[row] }/\Stp w S ρ β M w' S' (fun r=>if r=M.H.length then g else ρ r) (M.H++[row]):=by
  have old:∀b,b<w.heap.size->w'.heap[b]? = w.heap[b]?:=fun b hb=>hg.block b hb (by simp)
  have hA:=RowsTo.grow z hg hS
  have Q:∀r,r<M.H.length->(if r=M.H.length then g else ρ r)=ρ r:=fun r J=>Ahj (by omega)
  have U:RowsTo w S ρ M.H w' S' (fun r=>if r=M.H.length then g else ρ r) (M.H++[row]):=by
    refine⟨hA.hw,hA.hS,fun r ty esz es W fz J=>?_,fun r es fz J=>?_,fun r st pd E ps ca cb J=>?_⟩
    · have u:=(Ahg.1 J).1
      obtain⟨es',Y,fz',h1,Z,h3,h4,h5⟩:=hA.cs r ty esz es W fz J
      exact⟨es',Y,fz',by rw[AhC u];exact h1,Z,h3,fun b ver a1 a2 a3=>by rw[Q r u];exact h4 b ver a1 a2 a3,fun e=>by rw[Q r u];exact h5 e⟩
    · have u:=(Ahg.1 J).1
      exact⟨Q r u,es,fz,by rw[AhC u];exact J⟩
    · have u:=(Ahg.1 J).1
      exact⟨Q r u,st,pd,by rw[AhC u];exact J⟩
  have hR:=hrow U
  have hgl:g<w'.heap.size:=by
    have N:∃o,w'.heap[g]? = some o:=by
      cases row with
      | cs ty esz es W fz=>obtain⟨_,_,_,_,_,cur,cap,mk,N,_⟩:=hR;exact⟨_,by simpa using N⟩
      | mp es fz=>obtain⟨_,_,ents,clock,N,_⟩:=hR;exact⟨_,by simpa using N⟩
      | lp st pd E ps ca cb=>obtain⟨_,rec,_,_,N,_⟩:=hR;exact⟨_,by simpa using N⟩
    obtain⟨o,N⟩:=N
    exact(AhO.1 N).1
  refine⟨⟨fun r row' J=>?_,fun d cs hd=>?_,fun r r' h1 Z e=>?_,z.bij,fun r d h1 Z e=>?_,fun d hd hs=>?_,hl⟩,U.stp (M:=M) (M':={ M with H:=M.H++[row] }) hg (by simp) (fun b hb=>(hn b hb).imp id .inl) fun r h=>(by
      by_cases c:r=M.H.length
      · exact .inr (by rw[Ahl c];exact hgn)
      · simp only[Ahv,AhR,AhW]at h
        exact .inl ⟨r,by omega,Ahj c⟩)⟩
  · by_cases u:r<M.H.length
    · simp only[AhC u]at J
      have hrl:=z.rlt u
      exact(z.rows r row' J).same U (Q r u) (old _ hrl) (fun hs=>(hn _ hs).resolve_right (by omega))
    · have hr2:=(Ahg.1 J).1
      simp only[Ahv,AhR,AhW]at hr2
      have hre:r=M.H.length:=by omega
      subst hre
      simp at J
      subst J
      exact hR
  · have u:=z.blt (d:=d) (by simpa using (by rw[hd];rfl:(getB M.B d).isSome=true))
    obtain⟨cur,T,N,J⟩:=z.boxes d cs hd
    exact⟨cur,T,by rw[old _ u];exact N,J.mono U⟩
  · simp only[Ahv,AhR,AhW]at h1 Z
    by_cases c1:r=M.H.length <;> by_cases c2:r'=M.H.length
    · omega
    · rw[Ahl c1,Ahj c2]at e
      have:=z.rlt (r:=r') (by omega)
      omega
    · rw[Ahj c1,Ahl c2]at e
      have:=z.rlt (r:=r) (by omega)
      omega
    · rw[Ahj c1,Ahj c2]at e
      exact z.inj r r' (by omega) (by omega) e
  · simp only[Ahv,AhR,AhW]at h1
    by_cases c1:r=M.H.length
    · rw[Ahl c1]at e
      have:=z.blt Z
      omega
    · rw[Ahj c1]at e
      exact z.rb r d (by omega) Z e
  · have u:=z.blt hd
    exact z.bns d hd ((hn _ hs).resolve_right (by omega))
theorem ZL {a b:Nat}(h:a≠b):Nat.beq a b=false:=by
  cases hb:Nat.beq a b with
  | true=>exact absurd (Ahy hb) h
  | false=>rfl
theorem AN (B:LE)(d:Nat)(cs:List V)(k:Nat):getB (Eo B d cs) k=if k=d then some cs else getB B k:=by
  induction B with
  | nil =>
    simp only[Eo,getB]
    by_cases h:k=d
    · subst h;simp
    · rw[Ahj h]
      have:Nat.beq d k=false:=ZL fun e=>h e.symm
      rw[this]
  | cons p r E =>
    obtain⟨a,x⟩:=p
    simp only[Eo]
    cases hab:Nat.beq a d with
    | true =>
      have u:=Ahy hab
      subst u
      simp only[getB]
      by_cases h:k=a
      · subst h;simp
      · rw[Ahj h]
        have:Nat.beq a k=false:=ZL fun e=>h e.symm
        rw[this]
    | false =>
      have u:a≠d:=Nat.ne_of_beq_eq_false hab
      cases Nat.blt d a with
      | true =>
        simp only[getB]
        by_cases h:k=d
        · subst h;simp
        · rw[Ahj h]
          have:Nat.beq d k=false:=ZL fun e=>h e.symm
          rw[this]
      | false =>
      simp only[getB]
      cases hak:Nat.beq a k with
      | true =>
        have z:=Ahy hak
        rw[Ahj (by omega)]
      | false=>exact E
theorem SY (B:LE)(n m:Nat)(x y:List V)(h:n≠m):Eo (Eo B n x) m y=Eo (Eo B m y) n x:=by
  have blt:∀a b:Nat,Nat.blt a b=decide (a<b):=fun a b=>by
    rw[Aie];simp[AiA]
  have u:∀a b:Nat,Nat.beq a b=decide (a=b):=fun a b=>by
    rw[Aie];simp[AhB]
  induction B with
  | nil =>
    simp only[Eo,blt,u]
    rcases Nat.lt_or_gt_of_ne h with E|E
    · have:¬m<n:=by omega
      simp[this,E,h,Air h]
    · have:¬n<m:=by omega
      simp[this,E,h,Air h]
  | cons p r Q =>
    obtain⟨k,z⟩:=p
    simp only[Eo,blt,u]
    rcases Nat.lt_trichotomy n k with J|J|J <;> rcases Nat.lt_trichotomy m k with N|N|N <;> rcases Nat.lt_or_gt_of_ne h with U|U <;>
      first
        | (exfalso;omega)
        | (simp (disch:=omega) only [Eo,blt,u,Ahq,Ahs];done)
        | (simp (disch:=omega) only [Eo,blt,u,Ahs,Q];done)
variable {cs:List V} {cur:Array Value} {T:TypeId}
theorem Ok.newBox (z:Ok w S ρ β M)(hg:Gw w w' none)(hS:∀b,S b->S' b)(hn:∀b,S' b->S b\/w.heap.size<=b)(hl:∀b,S' b->b<w'.heap.size){d:Nat} 
    (hgn:w.heap.size<=g) (a0:¬S' g) (Q:w'.heap[g]? = some (.cells cur T (0,0))) (hr:RepL w S ρ M.H cs cur.toList) :
    Ok w' S' ρ (fun k=>if k=d then g else β k) { M with B:=Eo M.B d cs }/\Stp w S ρ β M w' S' ρ M.H:=by
  obtain⟨u,W⟩:=z.grow hg hS hn hl
  refine⟨⟨u.rows,fun k a1 E=>?_,u.inj,fun k k' N J e=>?_,fun r k N J e=>?_,fun k E Z=>?_,hl⟩,W⟩
  · simp only[AN]at E
    by_cases h:k=d
    · rw[Ahl h]at E
      cases E
      rw[Ahl h]
      exact⟨cur,T,Q,W.list hr⟩
    · rw[Ahj h]at E
      rw[Ahj h]
      exact u.boxes k a1 E
  · simp only[AN]at N J
    by_cases U:k=d <;> by_cases Y:k'=d
    · omega
    · rw[Ahl U,Ahj Y]at e
      rw[Ahj Y]at J
      have:=z.blt J
      omega
    · rw[Ahj U,Ahl Y]at e
      rw[Ahj U]at N
      have:=z.blt N
      omega
    · rw[Ahj U,Ahj Y]at e
      rw[Ahj U]at N
      rw[Ahj Y]at J
      exact z.bij k k' N J e
  · simp only[AN]at J
    by_cases c:k=d
    · rw[Ahl c]at e
      have:=z.rlt N
      omega
    · rw[Ahj c]at e J
      exact z.rb r k N J e
  · simp only[AN]at E
    by_cases c:k=d
    · rw[Ahl c]at Z;exact a0 Z
    · rw[Ahj c]at E Z
      exact u.bns k E Z
theorem Ok.setBox (z:Ok w S ρ β M){d:Nat}(W:(getB M.B d).isSome)(hg:Gw w w' (some (β d))) 
    (a3:w'.heap[β d]? = some (.cells cur T (0,0))) (hr:RepL w S ρ M.H cs cur.toList) :
    Ok w' S ρ β { M with B:=Eo M.B d cs }/\Stp w S ρ β M w' S ρ M.H:=by
  have Y:∀b,b<w.heap.size->b≠β d->w'.heap[b]? = w.heap[b]?:=fun b U hne=>hg.block b U (by simpa using hne)
  have a2:∀b,S b->w'.heap[b]? = w.heap[b]?:=fun b U=>Y b (z.lt b U) (fun e=>z.bns d W (e ▸ U))
  have Z:∀r,r<M.H.length->w'.heap[ρ r]? = w.heap[ρ r]?:=fun r hr=>Y _ (z.rlt hr) (z.rb r d hr W)
  have Q:RowsTo w S ρ M.H w' S ρ M.H:=by
    refine⟨a2,fun _ h=>h,fun r ty esz es a1 fz u=>?_,fun r es fz u=>⟨rfl,es,fz,u⟩,fun r st pd E ps ca cb u=>⟨rfl,st,pd,u⟩⟩
    have N:=(Ahg.1 u).1
    exact⟨es,a1,fz,u,Ahk _,Ahk _,fun b ver _ _ hA=>hA.same a2 (fun _ h=>h) (Z r N),fun _=>⟨rfl,fun cur mk h=>⟨cur,mk,by rw[Z r N];exact h,rfl⟩⟩⟩
  refine⟨⟨fun r row u=>?_,fun k cs' J=>?_,z.inj,fun k k' h1 h2 e=>?_,fun r k h1 h2 e=>?_,fun k J hs=>?_,fun b U=>AiH (z.lt b U) hg.size⟩,
    Q.stp (M:=M) (M':=M) hg (fun b e=>.inr ⟨d,W,by simpa using e.symm⟩) (fun b U=>.inl U) fun r h=>.inl ⟨r,h,rfl⟩⟩
  · have N:=(Ahg.1 u).1
    exact(z.rows r row u).same Q rfl (Z r N) id
  · simp only[AN]at J
    by_cases h:k=d
    · subst h
      rw[Ahl rfl]at J
      cases J
      exact⟨cur,T,a3,hr.mono Q⟩
    · rw[Ahj h]at J
      obtain⟨a0,T',hh,hr'⟩:=z.boxes k cs' J
      have hkl:=z.blt (d:=k) (by simp[J])
      exact⟨a0,T',by rw[Y _ hkl (fun e=>h (z.bij k d (by simp[J]) W e))];exact hh,hr'.mono Q⟩
  · simp only[AN]at h1 h2
    refine z.bij k k' ?_ ?_ e
    · by_cases c:k=d
      · subst c;exact W
      · rwa[Ahj c]at h1
    · by_cases c:k'=d
      · subst c;exact W
      · rwa[Ahj c]at h2
  · simp only[AN]at h2
    refine z.rb r k h1 ?_ e
    by_cases c:k=d
    · subst c;exact W
    · rwa[Ahj c]at h2
  · simp only[AN]at J
    refine z.bns k ?_ hs
    by_cases c:k=d
    · subst c;exact W
    · rwa[Ahj c]at J
theorem Ok.setRow (u:Ok w S ρ β M){r:Nat}{row':Row}(Y:M.H[r]? = some row)(hg:Gw w w' (some (ρ r))) 
    (hgg:g=ρ r\/w.heap.size<=g)
    (hS:∀b,S b->S' b) (hn:∀b,S' b->S b\/b=ρ r) (hSw:∀b,S b->w'.heap[b]? = w.heap[b]?)
    (hcs:∀ty U es base fz,row=.cs ty U es base fz -> ∃es' N Q,row'=.cs ty U es' N Q/\es.length<=es'.length/\base<=N /\
      (∀b ver,ver<=es.length->N<=ver->At w S (ρ r) b ver U es.length->At w' S' g b ver U es'.length) /\
      (es'.length=es.length->g=ρ r /\ ∀cur mk,w.heap[ρ r]? = some (.cells cur ty mk) -> ∃cur' mk',w'.heap[ρ r]? = some (.cells cur' ty mk')/\cur'.size=cur.size))
    (hmp:∀es fz,row=.mp es fz->g=ρ r /\ ∃es' Q,row'=.mp es' Q)
    (hro:RowsTo w S ρ M.H w' S' (fun k=>if k=r then g else ρ k) (M.H.set r row')->RowOk w' S' (fun k=>if k=r then g else ρ k) (M.H.set r row') r row')
    (hlp:∀st pd E ps ca cb,row=.lp st pd E ps ca cb->g=ρ r /\ ∃st' pd',row'=.lp st' pd' E ps ca cb:=by intro _ _ _ _ _ _ h;cases h) :
    Ok w' S' (fun k=>if k=r then g else ρ k) β { M with H:=M.H.set r row' }/\Stp w S ρ β M w' S' (fun k=>if k=r then g else ρ k) (M.H.set r row'):=by
  have z:=(Ahg.1 Y).1
  have old:∀b,b<w.heap.size->b≠ρ r->w'.heap[b]? = w.heap[b]?:=fun b hb a0=>hg.block b hb (by simpa using a0)
  have hrw:∀k,k<M.H.length->k≠r->w'.heap[ρ k]? = w.heap[ρ k]?:=fun k J a0=>old _ (u.rlt J) (fun e=>a0 (u.inj k r J z e))
  have hto:RowsTo w S ρ M.H w' S' (fun k=>if k=r then g else ρ k) (M.H.set r row'):=by
    refine⟨hSw,hS,fun k ty U es base fz J=>?_,fun k es fz J=>?_,fun k st pd E ps ca cb J=>?_⟩
    · have W:=(Ahg.1 J).1
      by_cases c:k=r
      · subst c
        rw[Y]at J
        obtain⟨es',N,Q,h1,Z,h3,h4,h5⟩:=hcs ty U es base fz (Aik J)
        refine⟨es',N,Q,by simp[z,h1],Z,h3,fun b ver a1 a2 a3=>by rw[Ahl rfl];exact h4 b ver a1 a2 a3,fun e=>by rw[Ahl rfl];exact h5 e⟩
      · refine⟨es,base,fz,by rw[Aij (Air c)];exact J,Ahk _,Ahk _,fun b ver _ _ hA=>?_,fun _=>?_⟩
        · rw[Ahj c];exact hA.same hSw hS (hrw k W c)
        · rw[Ahj c];exact⟨rfl,fun cur mk h=>⟨cur,mk,by rw[hrw k W c];exact h,rfl⟩⟩
    · by_cases c:k=r
      · subst c
        rw[Y]at J
        obtain⟨h1,es',Q,Z⟩:=hmp es fz (Aik J)
        exact⟨by rw[Ahl rfl];exact h1,es',Q,by simp[z,Z]⟩
      · exact⟨by rw[Ahj c],es,fz,by rw[Aij (Air c)];exact J⟩
    · by_cases c:k=r
      · subst c
        rw[Y]at J
        obtain⟨h1,st',pd',Z⟩:=hlp st pd E ps ca cb (Aik J)
        exact⟨by rw[Ahl rfl];exact h1,st',pd',by simp[z,Z]⟩
      · exact⟨by rw[Ahj c],st,pd,by rw[Aij (Air c)];exact J⟩
  have hR:=hro hto
  have hgl:g<w'.heap.size:=by
    have hh:∃o,w'.heap[g]? = some o:=by
      cases row' with
      | cs ty U es base fz=>obtain⟨_,_,_,_,_,cur,cap,mk,hh,_⟩:=hR;exact⟨_,by simpa using hh⟩
      | mp es fz=>obtain⟨_,_,ents,clock,hh,_⟩:=hR;exact⟨_,by simpa using hh⟩
      | lp st pd E ps ca cb=>obtain⟨_,rec,_,_,hh,_⟩:=hR;exact⟨_,by simpa using hh⟩
    obtain⟨o,hh⟩:=hh
    exact(AhO.1 hh).1
  have a0:∀k,k<M.H.length->k≠r->g≠ρ k:=fun k J hkr e=>by
    rcases hgg with h|h
    · exact hkr (u.inj k r J z (by omega))
    · have:=u.rlt J;omega
  refine⟨⟨fun k row'' J=>?_,fun d cs hd=>?_,fun k k' h1 Z e=>?_,u.bij,fun k d h1 Z e=>?_,fun d hd hs=>?_,fun b hb=>?_⟩,
    hto.stp (M:=M) (M':={ M with H:=M.H.set r row' }) hg (fun b e=>.inl ⟨r,z,by simpa using e.symm⟩) (fun b hb=>(hn b hb).imp id fun e=>.inr ⟨r,z,e⟩) fun k h=>(by
      simp only[Aib]at h
      by_cases c:k=r
      · rcases hgg with e|e
        · exact .inl ⟨r,z,by rw[Ahl c];exact e⟩
        · exact .inr (by rw[Ahl c];exact e)
      · exact .inl ⟨k,h,Ahj c⟩)⟩
  · by_cases c:k=r
    · subst c
      simp[z]at J
      subst J
      exact hR
    · simp only[Aij (Air c)]at J
      have W:=(Ahg.1 J).1
      exact(u.rows k row'' J).same hto (Ahj c) (hrw k W c) (fun hs=>(hn _ hs).resolve_right (fun e=>c (u.inj k r W z e)))
  · have W:=u.blt (d:=d) (by simpa using (by rw[hd];rfl:(getB M.B d).isSome=true))
    obtain⟨cur,T,hh,hr⟩:=u.boxes d cs hd
    refine⟨cur,T,by rw[old _ W (fun e=>u.rb r d z (by simpa using (by rw[hd];rfl:(getB M.B d).isSome=true)) e.symm)];exact hh,hr.mono hto⟩
  · simp only[Aib]at h1 Z
    by_cases c1:k=r <;> by_cases c2:k'=r
    · omega
    · rw[Ahl c1,Ahj c2]at e
      exact absurd e (a0 k' Z c2)
    · rw[Ahj c1,Ahl c2]at e
      exact absurd e.symm (a0 k h1 c1)
    · rw[Ahj c1,Ahj c2]at e
      exact u.inj k k' h1 Z e
  · simp only[Aib]at h1
    by_cases c:k=r
    · rw[Ahl c]at e
      rcases hgg with h|h
      · exact u.rb r d z Z (by omega)
      · have:=u.blt Z;omega
    · rw[Ahj c]at e
      exact u.rb k d h1 Z e
  · rcases hn _ hs with h|h
    · exact u.bns d hd h
    · exact u.rb r d z hd h.symm
  · rcases hn _ hb with h|h
    · exact AiH (u.lt b h) hg.size
    · rw[h];exact AiH (u.rlt z) hg.size
end
end Go.Mx
namespace Go.Mx
theorem Io (lo hi:Nat)(n:Int):inR lo hi n=true ↔ -(lo:Int)<=n/\n<=hi:=by
  cases n with
  | ofNat m=>simp only[inR,AhS,Int.ofNat_eq_natCast];omega
  | negSucc m=>simp only[inR,AiA];omega
theorem Aap (k:IntKind)(n:Int)(h:okK k n=true):k.wrap n=n:=by
  cases k <;> simp only[okK,Io]at h <;> simp[IntKind.wrap,IntKind.bits,IntKind.signed] <;> omega
theorem Gs (k:IntKind)(n:Int):wr k n=k.wrap n:=by
  unfold wr
  cases h:okK k n with
  | true=>exact(Aap k n h).symm
  | false=>rfl
theorem CT (a b:Int):ltI a b=decide (a<b):=by
  rw[Aie]
  cases a <;> cases b <;> simp[ltI,AiA] <;> omega
theorem DW (a b:Int):eqI a b=(a==b):=by
  rw[Aie]
  cases a <;> cases b <;> simp[eqI,AhB] <;> omega
theorem Hc (a b:Int):leI a b=decide (a<=b):=by
  rw[leI,CT,Aie]
  simp
theorem ZG (a b:IntKind):eqK a b=true↔a=b:=by cases a <;> cases b <;> simp[eqK]
theorem PP (k:IntKind):MI k=k.bits:=by cases k <;> rfl
theorem Ts (k:IntKind):Nw k=2 ^ k.bits:=by cases k <;> rfl
theorem FA (k:IntKind)(n:Int):Gp k n=(BitVec.ofInt k.bits n).toNat:=by
  rw[BitVec.toNat_ofInt]
  have z:(Nw k:Int)=((2 ^ k.bits:Nat):Int):=by rw[Ts]
  have u:0<Nw k:=by cases k <;> decide
  rw[<-z]
  cases n with
  | ofNat m =>
    simp only[Gp]
    show _=((m:Int)%(Nw k:Int)).toNat
    rw[<-Int.natCast_emod,Int.toNat_natCast]
  | negSucc m =>
    simp only[Gp]
    have E:Int.negSucc m%(Nw k:Int)=(Nw k:Int)-1-((m%Nw k:Nat):Int):=by
      rw[Int.negSucc_emod m (by omega)]
      push_cast
      omega
    rw[E]
    have J:m%Nw k<Nw k:=Nat.mod_lt _ u
    omega
theorem Iw (a b:List Nat):eqL a b=decide (a=b):=by
  induction a generalizing b with
  | nil=>cases b <;> simp[eqL]
  | cons x a u =>
    cases b with
    | nil=>simp[eqL]
    | cons y b =>
      simp only[eqL,u]
      rw[Aie]
      simp[AhB]
theorem Cp {a b:List UInt8}:a.map UInt8.toNat=b.map UInt8.toNat↔a=b:=by
  constructor
  · intro h
    exact(List.map_inj_right (fun _ _ h=>UInt8.toNat_inj.1 h)).1 h
  · rintro rfl;rfl
theorem Md (a b:List UInt8):ltL (a.map UInt8.toNat) (b.map UInt8.toNat)=Op.bytesLess a b:=by
  induction a generalizing b with
  | nil=>cases b <;> simp[ltL,Op.bytesLess]
  | cons x a E =>
    cases b with
    | nil=>simp[ltL,Op.bytesLess]
    | cons y b =>
      simp only[AhL,ltL,Op.bytesLess,E]
      have z:Nat.blt x.toNat y.toNat=decide (x<y):=by
        rw[Aie];simp[AiA,UInt8.lt_iff_toNat_lt]
      have u:Nat.beq x.toNat y.toNat=(x==y):=by
        rw[Aie];simp[AhB,UInt8.toNat_inj]
      rw[z,u]
variable {P:Program}
theorem NF (w:World)(t:TypeId)(k:IntKind)(x y:Int)(op:BinOp)(v:V)(hs:op ≠ .shl)(z:op ≠ .shr)(h:arX op k x y=some v):
    ∃c,(binOp op t (.int k x) (.int k y)).run P w=.ok c w /\ ∃i,v=.m i/\RepI w (fun _=>False) i c:=by
  cases op <;> simp only[arX,vi,vb,Ag,Ahe,reduceCtorEq]at h <;> first|contradiction|skip
  case add=>exact⟨.int k (k.wrap (x+y)),by simp[binOp,Op.intArith],_,h.symm,by rw[Gs];exact .i _ _⟩
  case sub=>exact⟨.int k (k.wrap (x-y)),by simp[binOp,Op.intArith],_,h.symm,by rw[Gs];exact .i _ _⟩
  case mul=>exact⟨.int k (k.wrap (x*y)),by simp[binOp,Op.intArith],_,h.symm,by rw[Gs];exact .i _ _⟩
  case quo =>
    have u:y≠0:=by have:=h.1;rw[DW]at this;simpa using this
    exact⟨.int k (k.wrap (x.tdiv y)),by simp[binOp,Op.intDiv,u],_,h.2.symm,by rw[Gs];exact .i _ _⟩
  case rem =>
    have u:y≠0:=by have:=h.1;rw[DW]at this;simpa using this
    exact⟨.int k (x.tmod y),by simp[binOp,Op.intDiv,u],_,h.2.symm,.i _ _⟩
  case eql=>exact⟨.bool (x==y),by simp[binOp,Op.intCmp],_,h.symm,by rw[DW];exact .b _⟩
  case neq=>exact⟨.bool (x != y),by simp[binOp,Op.intCmp],_,h.symm,by rw[DW];exact .b _⟩
  case lss=>exact⟨.bool (x<y),by simp[binOp,Op.intCmp],_,h.symm,by rw[CT];exact .b _⟩
  case leq=>exact⟨.bool (x<=y),by simp[binOp,Op.intCmp],_,h.symm,by rw[Hc];exact .b _⟩
  case gtr=>exact⟨.bool (x > y),by simp[binOp,Op.intCmp],_,h.symm,by rw[CT];exact .b _⟩
  case geq=>exact⟨.bool (x>=y),by simp[binOp,Op.intCmp],_,h.symm,by rw[Hc];exact .b _⟩
  case and=>exact⟨_,by simp only[binOp,ne_eq,not_true_eq_false,if_false];rfl,_,h.symm,by rw[Gs,FA,FA];exact .i _ _⟩
  case or=>exact⟨_,by simp only[binOp,ne_eq,not_true_eq_false,if_false];rfl,_,h.symm,by rw[Gs,FA,FA];exact .i _ _⟩
  case xor=>exact⟨_,by simp only[binOp,ne_eq,not_true_eq_false,if_false];rfl,_,h.symm,by rw[Gs,FA,FA];exact .i _ _⟩
theorem LQ (n:Nat):Int.ofNat (Nat.pow 2 n)=(2:Int) ^ n:=by
  show ((2 ^ n:Nat):Int)=_
  push_cast
  rfl
theorem FT (w:World)(t:TypeId)(k E:IntKind)(x:Int)(y:Nat)(op:BinOp)(v:V)(u:op=.shl\/op=.shr)(h:shX op k x y=some v):
    ∃c,(binOp op t (.int k x) (.int E y)).run P w=.ok c w /\ ∃i,v=.m i/\RepI w (fun _=>False) i c:=by
  have z:¬(y:Int)<0:=by omega
  rcases u with rfl|rfl
  · simp only[shX,vi,Ahe]at h
    refine⟨.int k (k.wrap (x*2 ^ min y k.bits)),by simp[binOp,Op.shift,z],_,h.symm,?_⟩
    rw[Gs,PP,LQ];exact .i _ _
  · simp only[shX,vi,Ahe]at h
    refine⟨.int k (x.fdiv (2 ^ min y k.bits)),by simp[binOp,Op.shift,z],_,h.symm,?_⟩
    rw[PP,LQ];exact .i _ _
theorem Oa (a b:ByteArray):(a++b).data=a.data++b.data:=by simp
theorem NE (w:World)(t:TypeId)(x y:ByteArray)(op:BinOp)(v:V)(h:stX op (x.data.toList.map UInt8.toNat) (y.data.toList.map UInt8.toNat)=some v):
    ∃c,(binOp op t (.string x) (.string y)).run P w=.ok c w /\ ∃i,v=.m i/\RepI w (fun _=>False) i c:=by
  have u:∀z:ByteArray,z.toList=z.data.toList:=ByteArray.toList_eq
  have E:(x.toList==y.toList)=decide (x.data.toList=y.data.toList):=by rw[u,u,Aie];simp
  cases op <;> simp only[stX,vb,Ag,Ahe,reduceCtorEq]at h <;> first|contradiction|skip
  case add =>
    have J:¬((x.size+y.size:Nat):Int) > IntKind.i64.max:=by
      have:=h.1
      simp only[AhS,Ahr,AhX]at this
      have Q:x.size=x.data.size:=rfl
      have N:y.size=y.data.size:=rfl
      simp only[IntKind.max_i64]
      omega
    refine⟨.string (x++y),by simp only[binOp,Op.stringOp,Ahj J];rfl,_,h.2.symm,?_⟩
    refine .s _ _ ?_
    rw[Oa];simp
  case eql=>exact⟨.bool (x.toList==y.toList),by simp[binOp,Op.stringOp],_,h.symm,by rw[Iw,E];simp only[Cp];exact .b _⟩
  case neq=>exact⟨.bool (!(x.toList==y.toList)),by simp[binOp,Op.stringOp],_,h.symm,by rw[Iw,E];simp only[Cp];exact .b _⟩
  case lss=>exact⟨.bool (Op.bytesLess x.toList y.toList),by simp[binOp,Op.stringOp],_,h.symm,by rw[Md,u,u];exact .b _⟩
  case leq=>exact⟨.bool (Op.bytesLess x.toList y.toList||x.toList==y.toList),by simp[binOp,Op.stringOp],_,h.symm,by rw[Md,Iw,E,u,u];simp only[Cp];exact .b _⟩
  case gtr=>exact⟨.bool (!(Op.bytesLess x.toList y.toList||x.toList==y.toList)),by simp[binOp,Op.stringOp],_,h.symm,by rw[Md,Iw,E,u,u];simp only[Cp];exact .b _⟩
  case geq=>exact⟨.bool (!Op.bytesLess x.toList y.toList),by simp[binOp,Op.stringOp],_,h.symm,by rw[Md,u,u];exact .b _⟩
theorem Aes {S:Nat->Prop}(w:World)(op:UnOp)(x:V)(c:Value)(v:V)(i:I)(J:x=.m i)(E:RepI w S i c)(h:unX op x=some v):
    ∃z,(Op.unary op c).run P w=.ok z w /\ ∃j,v=.m j/\RepI w (fun _=>False) j z:=by
  subst J
  cases E with
  | b x =>
    cases op <;> simp only[unX,vb,Ahe,reduceCtorEq]at h
    exact⟨.bool (!x),by simp[Op.unary],_,h.symm,.b _⟩
  | i k n =>
    cases op <;> simp only[unX,vi,Ahe,reduceCtorEq]at h
    case neg=>exact⟨.int k (k.wrap (0-n)),by simp[Op.unary,Op.intArith],_,h.symm,by rw[Gs];exact .i _ _⟩
    case xor =>
      refine⟨.int k (bits .xor k (if k.signed then -1 else k.max) n),rfl,_,h.symm,?_⟩
      rw[Gs]
      have:bits .xor k (if k.signed then -1 else k.max) n=k.wrap (Int.ofNat (Nw k-1-Gp k n)):=by
        have u:BitVec.ofInt k.bits (if k.signed then -1 else k.max)=BitVec.allOnes k.bits:=by cases k <;> decide
        show k.wrap ((BitVec.ofInt k.bits (if k.signed then -1 else k.max) ^^^ BitVec.ofInt k.bits n).toNat:Int)=_
        rw[u,BitVec.allOnes_xor,BitVec.toNat_not,FA,Ts]
        rfl
      rw[this]
      exact .i _ _
  | _=>cases op <;> simp[unX]at h
end Go.Mx
namespace Go.Mx
def RepX (w:World)(S:Nat->Prop)(ρ β:Nat->Nat)(H:Hp)(v:V)(c:Value):Prop:=match v with
  | .fa d off=>c=.pointer (some ⟨β d,off,none⟩)
  | v=>RepV w S ρ H v c
inductive All2 {α β:Type} (R:α->β->Prop):List α->List β->Prop where
  | nil:All2 R [] []
  | cons {a:α} {b:β} {l:List α} {m:List β} (h:R a b) (t:All2 R l m):All2 R (a::l) (b::m)
def dof:O->Option Nat
  | .l (.alp d _)=>some d
  | .l (.bxp d _)=>some d
  | _=>none
def Outc (w:World)(S:Nat->Prop)(ρ β:Nat->Nat)(M:Mem)(o:O)(v:V)(M':Mem)(r:Result Next):Prop :=
  ∃nx c w' S' ρ' β',r=.ok nx w'/\(nx=.value c\/(nx=.skip/\c=undef))/\Ok w' S' ρ' β' M'/\Stp w S ρ β M w' S' ρ' M'.H/\RepX w' S' ρ' β' M'.H v c/\(∀d,dof o≠some d->β' d=β d) /\ ∀d,(getB M'.B d).isSome->(∃q,(getB M.B q).isSome/\β' d=β q)\/w.heap.size<=β' d
section
variable {P:Program} {w:World} {S:Nat->Prop} {ρ β:Nat->Nat} {M:Mem} {H:Hp}
variable {v:V} {c:Value}
theorem RepX.ofV (h:RepV w S ρ H v c):RepX w S ρ β H v c:=by
  cases v <;> first|exact h|cases h
theorem RepX.toV (u:AB v=true)(h:RepX w S ρ β H v c):RepV w S ρ H v c:=by
  cases v <;> first|exact h|simp[AB]at u
variable {l:List V}
theorem RepX.cells (h:RepX w S ρ β H v c)(hl:Ay v=some l):RepL w S ρ H l c.cells.toList:=by
  cases v <;> first|exact RepV.cells h hl|simp[Ay]at hl
theorem RepI.any {i:I}(h:RepI w (fun _=>False) i c):RepI w S i c:=h.mono (fun _ h=>h.elim) (fun _ h=>h.elim)
theorem Outc.val {o:O}{r:Result Next}(u:Ok w S ρ β M)(h:RepX w S ρ β M.H v c)(z:r=.ok (.value c) w):Outc w S ρ β M o v M r :=
  ⟨_,c,w,S,ρ,β,z,.inl rfl,u,Stp.refl _ _ _ _ _,h,fun _ _=>rfl,fun d E=>.inl ⟨d,E,rfl⟩⟩
variable {α:Type}
theorem All2.inv1 {β:Type}{R:α->β->Prop}{a:α}{m:List β}(h:All2 R [a] m):∃b,m=[b]/\R a b:=by
  cases h with|cons h t=>cases t;exact⟨_,rfl,h⟩
theorem All2.inv2 {β:Type}{R:α->β->Prop}{a z:α}{m:List β}(h:All2 R [a,z] m):∃b u,m=[b,u]/\R a b/\R z u:=by
  cases h with|cons h t=>obtain⟨u,rfl,E⟩:=t.inv1;exact⟨_,_,rfl,h,E⟩
theorem All2.inv3 {β:Type}{R:α->β->Prop}{a N z:α}{m:List β}(h:All2 R [a,N,z] m):∃b E u,m=[b,E,u]/\R a b/\R N E/\R z u:=by
  cases h with|cons h t=>obtain⟨E,u,rfl,Q,J⟩:=t.inv2;exact⟨_,_,_,rfl,h,Q,J⟩
theorem All2.length {β:Type}{R:α->β->Prop}{l:List α}{m:List β}(h:All2 R l m):l.length=m.length:=by
  induction h with|nil=>rfl|cons _ _ u=>simp[u]
variable {cs:List Value}
theorem All2.toL {vs:List V}(u:vs.all AB=true)(h:All2 (RepX w S ρ β H) vs cs):RepL w S ρ H vs cs:=by
  induction h with
  | nil=>exact .nil
  | cons h t z=>simp only[List.all_cons,Ahi]at u;exact .cons (h.toV u.1) (z u.2)
theorem SH (h:toV c=some v):RepV w S ρ H v c:=by
  unfold toV at h
  split at h <;> first|contradiction|(simp only[Ahe]at h;subst h)
  · exact .m (.b _)
  · exact .m (.i _ _)
  · exact .m (.s _ _ rfl)
  · exact .m .nlp
  · exact .m .nlm
  · exact .m .nlf
  · exact .m .nli
  · exact .m .nls
theorem OS:∀ {cs:List Value} {vs:List V},Ah toV cs=some vs->RepL w S ρ H vs cs
  | [],vs,h=>by simp[Ah]at h;subst h;exact .nil
  | c::cs,vs,h=>by
    simp only[Ah,Ahd,Ahe]at h
    obtain⟨x,u,l,hl,rfl⟩:=h
    exact .cons (SH u) (OS hl)
variable {t:TypeId}
theorem CE {zs:List V}(h:Dv P t=some zs):∃i z,P.info? t=some i/\i.zero=some z/\z.cells.size=i.size/\zs.length=i.size /\ ∀(w:World) S ρ H,RepL w S ρ H zs z.cells.toList:=by
  simp only[Dv,Ahd,Ag,AhB]at h
  obtain⟨i,hi,z,J,E,N⟩:=h
  have u:=fun(w:World) S ρ H=>OS (w:=w) (S:=S) (ρ:=ρ) (H:=H) N
  refine⟨i,z,hi,J,E,?_,u⟩
  have:=(u default (fun _=>False) id []).1
  simp at this
  omega
theorem AR {s:Nat}:BD P t=some s ↔ ∃i,P.info? t=some i/\i.size=s:=by simp[BD,Ahd]
theorem ID {s:Nat}:JM P t=some s ↔ ∃i,P.info? t=some i/\i.bytes=s:=by simp[JM,Ahd]
variable {i:TypeInfo}
theorem AS (hi:P.info? t=some i)(w:World):(sizeOf t).run P w=.ok i.size w:=by simp[sizeOf,typeInfo,hi]
theorem LF (hi:P.info? t=some i)(w:World):(typeInfo t).run P w=.ok i w:=by simp[typeInfo,hi]
theorem Br {z:Value}(hi:P.info? t=some i)(u:i.zero=some z)(w:World):(zeroValue t).run P w=.ok z w:=by simp[zeroValue,typeInfo,hi,u]
variable {ag:Bool}
theorem DN (h:Cn P t=some ag)(w:World):(isAgg t).run P w=.ok ag w:=by
  simp only[Cn,Ahd]at h
  obtain⟨d,u,h⟩:=h
  simp only[isAgg,Sem.run_bind,run_underlying u,Result.andThen_ok]
  cases d <;> simp at h <;> subst h <;> rfl
variable {xs:List V}
theorem SJ {n:Nat}(h:RepL w S ρ H xs cs)(z:Dw n xs=some l):RepL w S ρ H l (cs.take n)/\(cs.take n).length=n:=by
  simp only[Dw,Ag,AhB,Ahe]at z
  obtain⟨E,rfl⟩:=z
  have u:=h.take n
  exact⟨u,by have:=u.1;omega⟩
theorem FO {cs:Array Value}(h:RepL w S ρ H l cs.toList)(u:DD ag l=some v):
    (ag=true/\RepV w S ρ H v (.agg cs))\/(ag=false /\ ∃c,cs=#[c]/\RepV w S ρ H v c):=by
  cases ag with
  | true=>simp only[DD,Ahe]at u;subst u;exact .inl ⟨rfl,h.mkAg⟩
  | false =>
    simp only[DD]at u
    split at u
    · rename_i x
      simp only[Ahe]at u
      subst u
      obtain⟨c,r,z,J,E⟩:=h.inv_cons
      have:=E.inv_nil
      subst this
      refine .inr ⟨rfl,c,?_,J⟩
      obtain⟨l⟩:=cs
      simp at z
      simp[z]
    · cases u
theorem WY (z:Cn P t=some ag)(hi:P.info? t=some i)(hs:ag=true\/i.size=1){cs:Array Value}{off:Nat} 
    (h:RepL w S ρ H xs cs.toList) (W:Dw i.size (xs.drop off)=some l) (Y:DD ag l=some v) :
    ∃c,(part t cs off).run P w=.ok c w/\RepV w S ρ H v c:=by
  obtain⟨Q,h2⟩:=SJ (h.drop off) W
  have Z:RepL w S ρ H l (cs.extract off (off+i.size)).toList:=by
    have:(cs.extract off (off+i.size)).toList=(cs.toList.drop off).take i.size:=by simp[List.take_drop]
    rw[this];exact Q
  rcases FO Z Y with ⟨rfl,J⟩|⟨rfl,c,U,J⟩
  · exact⟨_,by simp[part,DN z,AS hi],J⟩
  · refine⟨c,?_,J⟩
    have E:i.size=1:=by rcases hs with h|h;cases h;exact h
    have u:cs[off]? = some c:=by
      have N:(cs.extract off (off+i.size))[0]? = some c:=by rw[U];rfl
      rw[E]at N
      exact(by simpa[Array.getElem?_extract]using N:_/\_).2
    simp[part,DN z,u]
end
end Go.Mx
namespace Go.Mx
section
variable {P:Program} {w:World} {S:Nat->Prop} {ρ β:Nat->Nat} {M:Mem} {H:Hp} {o:Oper} {a:Act} {hi:Hint} {vs:List V} {v:V}
variable {k:IntKind} {c:Value}
theorem Cd {n:Int}(h:RepV w S ρ H (.m (.i k n)) c):c=.int k n:=by have:=h.imm;cases this;rfl
theorem CF {b:Bool}(h:RepV w S ρ H (.m (.b b)) c):c=.bool b:=by have:=h.imm;cases this;rfl
theorem Eh {l:List Nat}(h:RepV w S ρ H (.m (.s l)) c):∃s:ByteArray,c=.string s/\s.data.toList.map UInt8.toNat=l:=by have:=h.imm;cases this;exact⟨_,rfl,‹_›⟩
variable {x:Operand}
theorem Zp {op:OP}(u:o.op=.move x\/o.op=.assign x)(z:Ok w S ρ β M)(E:op=.mv)(N:All2 (RepX w S ρ β M.H) vs [a.eval x])(J:Aq op vs=some v):
    Outc w S ρ β M (.p op) v M ((execOp a.eval o).run P w):=by
  subst E
  cases N with|cons h t =>
  cases t
  simp only[Aq,Ahe]at J
  subst J
  refine .val z h ?_
  rcases u with u|u <;> simp[execOp,u]
abbrev S4 (o:Oper)(a:Act)(P:Program)(w:World)(S:Nat->Prop)(ρ β:Nat->Nat)(M:Mem)(vs:List V)(v:V)(q:OP)(es:List Value):Prop:=Ok w S ρ β M->All2 (RepX w S ρ β M.H) vs es->Aq q vs=some v->Outc w S ρ β M (.p q) v M ((execOp a.eval o).run P w)
variable {y:Operand}
theorem WJ {c:Operand}(J:o.op=.pick c x y):S4 o a P w S ρ β M vs v .pick [a.eval c,a.eval x,a.eval y]:=fun z Q u=>by
  cases Q with|cons h t =>
  cases t with|cons U t =>
  cases t with|cons N t =>
  cases t
  simp only[Aq]at u
  split at u
  · simp only[Ahe]at u
    subst u
    have E:a.eval c=.bool true:=CF h
    exact .val z U (by simp[execOp,J,E,asBool])
  · simp only[Ahe]at u
    subst u
    have E:a.eval c=.bool false:=CF h
    exact .val z N (by simp[execOp,J,E,asBool])
  · cases u
variable {t:TypeId}
theorem Aep {u:UnOp}(W:o.op=.unOp u t x):S4 o a P w S ρ β M vs v (.un u) [a.eval x]:=fun E U z=>by
  cases U with|cons h t =>
  cases t
  rename_i J
  simp only[Aq]at z
  obtain⟨i,rfl⟩:∃i,J=.m i:=by cases J <;> first|exact⟨_,rfl⟩|(simp[unX]at z)
  obtain⟨Y,Q,j,rfl,N⟩:=Aes (P:=P) w u (.m i) _ v i rfl (RepV.imm h) z
  exact .val E (RepX.ofV (.m N.any)) (by simp[execOp,W,Q])
theorem ST {b:BinOp}{ty:TypeId}(ho:o.op=.binOp b t x y ty):S4 o a P w S ρ β M vs v (.bin b) [a.eval x,a.eval y]:=fun J hv u=>by
  cases hv with|cons h t =>
  cases t with|cons h1 t =>
  cases t
  simp only[Aq]at u
  unfold Ev at u
  split at u
  · rename_i k Y k' W
    have hx:=Cd h
    have E:=Cd h1
    have N:eqGuard b t x y (.int k Y) (a.eval y)=pure ():=eqGuard_at_int ..
    split at u
    · simp only[Ahd]at u
      obtain⟨n,Z,u⟩:=u
      have U:W=(n:Int):=by cases W <;> simp[Abt]at Z;subst Z;rfl
      subst U
      obtain⟨c,Q,i,rfl,z⟩:=FT (P:=P) w t k k' Y n .shl v (.inl rfl) u
      exact .val J (RepX.ofV (.m z.any)) (by rw[E]at N;simp[execOp,ho,hx,E,N,Q])
    · simp only[Ahd]at u
      obtain⟨n,Z,u⟩:=u
      have U:W=(n:Int):=by cases W <;> simp[Abt]at Z;subst Z;rfl
      subst U
      obtain⟨c,Q,i,rfl,z⟩:=FT (P:=P) w t k k' Y n .shr v (.inr rfl) u
      exact .val J (RepX.ofV (.m z.any)) (by rw[E]at N;simp[execOp,ho,hx,E,N,Q])
    · simp only[Ag,ZG]at u
      obtain⟨rfl,u⟩:=u
      obtain⟨c,Q,i,rfl,z⟩:=NF (P:=P) w t k Y W b v (by assumption) (by assumption) u
      exact .val J (RepX.ofV (.m z.any)) (by rw[E]at N;simp[execOp,ho,hx,E,N,Q])
  · rename_i Y W
    obtain⟨sx,hx,rfl⟩:=Eh h
    obtain⟨sy,E,rfl⟩:=Eh h1
    have N:eqGuard b t x y (.string sx) (a.eval y)=pure ():=eqGuard_at_string ..
    obtain⟨c,Q,i,rfl,z⟩:=NE (P:=P) w t sx sy b v u
    exact .val J (RepX.ofV (.m z.any)) (by rw[E]at N;simp[execOp,ho,hx,E,N,Q])
  · cases u
theorem Aeq {E d:TypeId}(U:o.op=.convert E d x)(hs:∃u,P.underlying E=some u)(Y:P.underlying d=some (.int k)):S4 o a P w S ρ β M vs v (.cv k) [a.eval x]:=fun J Q z=>by
  cases Q with|cons h t =>
  cases t
  simp only[Aq]at z
  split at z
  · rename_i Z n
    have N:=Cd h
    simp only[vi,Ahe]at z
    subst z
    obtain⟨u,W⟩:=hs
    refine .val J (RepX.ofV (.m (by rw[Gs];exact .i k (k.wrap n)))) ?_
    simp[execOp,U,N,convert,run_underlying W,run_underlying Y,Conv.intToInt]
  · cases z
theorem Bz (b off n:Nat):Addr.add ⟨b,off,none⟩ n=⟨b,off+n,none⟩:=Addr.add_lit b off n
variable {p:Addr} {i:TypeInfo}
theorem Jj {f:Field}(u:P.info? f.type=some i)(hs:i.size≠0):(fieldPlace p f).run P w=.ok (p.add f.offset) w:=by
  simp[fieldPlace,AS u,hs]
variable {n j:Nat}
theorem PI {α:Type}{l:List α}{x:α}(h:(l.drop n)[j]? = some x):l[n+j]? = some x:=by rwa[AiI]at h
variable {cs:List I}
theorem Xk {b off:Nat}(h:RepI w S (.pt cs) (.pointer (some ⟨b,off,none⟩))):RepI w S (.pt (cs.drop n)) (.pointer (some ⟨b,off+n,none⟩)):=by
  cases h with
  | pt xs b off f J z E=>exact .pt _ b _ (fun j=>f (n+j)) J (fun j x u=>by rw[Nat.add_assoc];exact z _ _ (PI u)) (fun j x u=>E _ _ (PI u))
theorem Pl (h:RepV w S ρ H (.m (.pt cs)) c):∃b off,c=.pointer (some ⟨b,off,none⟩)/\RepI w S (.pt cs) (.pointer (some ⟨b,off,none⟩)):=by
  have h:=h.imm
  cases h with
  | pt _ b off f E u z=>exact⟨b,off,rfl,.pt cs b off f E u z⟩
def mvA (n:Nat):V->Option V
  | .fa d o=>some (.fa d (o+n))
  | .pt r ver ix o=>some (.pt r ver ix (o+n))
  | .m (.pt cs)=>some (.m (.pt (cs.drop n)))
  | _=>none
theorem Tq {x:V}(h:RepX w S ρ β H x c)(u:mvA n x=some v):∃p,c=.pointer (some p)/\RepX w S ρ β H v (.pointer (some (p.add n))):=by
  unfold mvA at u
  split at u
  · rename_i d off
    simp only[Ahe]at u
    subst u
    exact⟨_,h,by rw[Bz];rfl⟩
  · rename_i r Q ix off
    simp only[Ahe]at u
    subst u
    cases RepX.toV rfl h with
    | pt _ _ _ _ Z J es E U p z h2 hx W =>
      refine⟨p,rfl,RepX.ofV (.pt r Q ix (off+n) Z J es E U (p.add n) z h2 hx fun N=>?_)⟩
      obtain⟨b,rfl,Y⟩:=W N
      exact⟨b,by rw[Bz,Nat.add_assoc],Y⟩
  · rename_i cs
    simp only[Ahe]at u
    subst u
    obtain⟨b,off,rfl,hp⟩:=Pl (RepX.toV rfl h)
    exact⟨_,rfl,RepX.ofV (.m (by rw[Bz];exact Xk hp))⟩
  · cases u
theorem AaK {f:Nat}{E:Array Field}{fl:Field}(W:o.op=.fieldAddr t x f)(Z:P.underlying t=some (.struct E))(Y:E[f]? = some fl)(u:P.info? fl.type=some i)(hs:i.size≠0):S4 o a P w S ρ β M vs v (.fad fl.offset) [a.eval x]:=fun z U J=>by
  cases U with|cons h t =>
  cases t
  rename_i x0
  obtain⟨p,Q,N⟩:=Tq (n:=fl.offset) (v:=v) h J
  refine .val z N ?_
  simp[execOp,W,Q,Instr.fieldAt,run_underlying Z,Y,Instr.sureAddr,Jj u hs]
theorem GF {i:V}(h:RepX w S ρ β H i c)(u:idx n i=some j):∃k,c=.int k (j:Int)/\j<n:=by
  unfold idx at u
  split at u
  · simp only[Ag,Ahe,AiA]at u
    obtain⟨z,rfl⟩:=u
    exact⟨_,Cd (RepX.toV rfl h),z⟩
  · cases u
variable {es:LT}
theorem Jz (h:RepV w S ρ H (.ls es) c):RepI w S (.sl es) c:=by cases h;assumption
theorem Ee (h:RepI w S (.sl es) c):∃a cap,c=.slice a es.length cap/\es.length<=cap/\cap<=maxLen/\(es≠[] -> ∃b off,a=some ⟨b,off,none⟩/\S b):=by
  cases h with
  | sl es a cap J b off cs u Q U E N W Y=>exact⟨a,cap,rfl,u,Q,fun z=>⟨b,off,(E z).1,(E z).2⟩⟩
variable {cap:Nat}
theorem Pa {a:Option Addr}(h:RepI w S (.sl es) (.slice a n cap)){e:List I}(u:nth es j=some e):∃p:Addr,a=some p/\RepI w S (.pt e) (.pointer (some (p.add (j*e.length)))):=by
  rw[AT]at u
  cases h with
  | sl es a cap U b off cs N hm J Q Y Z hr =>
    have E:es≠[]:=by rintro rfl;simp at u
    obtain⟨rfl,W⟩:=Q E
    refine⟨_,rfl,?_⟩
    rw[Bz,J e (Ahm u)]
    exact .pt e b _ (fun k=>cs j k) W (fun k x z=>by rw[Nat.add_assoc];exact Z j e k x u z) (fun k x z=>hr j e k x u z)
variable {e:TypeId}
theorem DE (E:P.underlying t=some (.slice e))(u:P.info? e=some i){len:Nat}(z:j<len):
    (Instr.indexAt t (.slice (some p) len cap) (.int k (j:Int))).run P w=.ok (.pointer (some (p.add (j*i.size)))) w:=by
  simp[Instr.indexAt,asIntOf,run_underlying E,z,AS u]
theorem AaJ (ho:o.op=.indexAddr t x y)(hu:P.underlying t=some (.slice e))(E:P.info? e=some i):S4 o a P w S ρ β M vs v (.ixa i.size) [a.eval x,a.eval y]:=fun W hv z=>by
  cases hv with|cons h t =>
  cases t with|cons h1 t =>
  cases t
  simp only[Aq]at z
  split at z
  · rename_i es
    simp only[Ahd,Ag,Ahe,AhB]at z
    obtain⟨j,Y,e',U,hl,rfl⟩:=z
    obtain⟨k,Z,u⟩:=GF h1 Y
    have N:=RepV.imm (RepX.toV rfl h)
    obtain⟨ad,cap,J,_,_,_⟩:=Ee N
    rw[J]at N
    obtain⟨p,rfl,Q⟩:=Pa N U
    rw[hl]at Q
    refine .val W (RepX.ofV (.m Q)) ?_
    simp[execOp,ho,J,Z,DE hu E u]
  · rename_i es
    simp only[Ahd,Ag,Ahe,AhB]at z
    obtain⟨j,Y,e',U,hl,rfl⟩:=z
    obtain⟨k,Z,u⟩:=GF h1 Y
    have N:=Jz (RepX.toV rfl h)
    obtain⟨ad,cap,J,_,_,_⟩:=Ee N
    rw[J]at N
    obtain⟨p,rfl,Q⟩:=Pa N U
    rw[hl]at Q
    refine .val W (RepX.ofV (.m Q)) ?_
    simp[execOp,ho,J,Z,DE hu E u]
  · rename_i r ver a1 st len lim
    simp only[Ahd,Ag,Ahe,AhB]at z
    obtain⟨hes,j,Y,rfl⟩:=z
    obtain⟨k,Z,u⟩:=GF h1 Y
    have h:=RepX.toV rfl h
    generalize J:a.eval x=c at h
    cases h with
    | sl _ _ _ _ _ _ ty es a2 fz ad cap a0 h1 h2 h3 h4 h5 hn hb ha =>
      obtain⟨p,rfl⟩:=hn
      refine .val W (RepX.ofV (.pt r ver (st+j) 0 ty a1 es a2 fz (p.add (j*i.size)) a0 h2 (by omega) fun hbv=>?_)) ?_
      · obtain⟨b,Q,hA⟩:=hb hbv (by omega)
        cases Q
        exact⟨b,by rw[Bz,hes,AhU,Nat.add_zero],hA⟩
      · simp[execOp,ho,J,Z,DE hu E u]
  · cases z
end
end Go.Mx
namespace Go.Mx
section
variable {P:Program} {w:World} {S:Nat->Prop} {ρ β:Nat->Nat} {M:Mem} {H:Hp} {o:Oper} {a:Act} {hi:Hint} {vs:List V} {v:V}
theorem XW {x:V}{c:Value}{l:List V}(h:RepX w S ρ β H x c)(hl:aggC x=some l):∃cs,c=.agg cs/\RepL w S ρ H l cs.toList:=by
  unfold aggC at hl
  split at hl
  · simp only[Ahe]at hl
    subst hl
    exact RepV.ofAgI (RepX.toV rfl h)
  · simp only[Ahe]at hl
    subst hl
    exact RepV.agL (RepX.toV rfl h)
  · cases hl
variable {x y:Operand} {t e:TypeId} {i:TypeInfo}
theorem AaH {n:Nat}{ag:Bool}(ho:o.op=.index t x y)(hu:P.underlying t=some (.array n e))(u:P.info? e=some i) 
    (J:Cn P e=some ag) (hs:ag=true\/i.size=1):S4 o a P w S ρ β M vs v (.ixv n i.size ag) [a.eval x,a.eval y]:=fun Q U Y=>by
  cases U with|cons h t =>
  cases t with|cons h1 t =>
  cases t
  simp only[Aq,Ahd]at Y
  obtain⟨j,Z,cs,N,l,hl,U⟩:=Y
  obtain⟨k,hy,W⟩:=GF h1 Z
  obtain⟨arr,hc,hr⟩:=XW h N
  obtain⟨c,z,E⟩:=WY (P:=P) J u hs hr hl U
  refine .val Q (RepX.ofV E) ?_
  simp[execOp,ho,hc,hy,Instr.index,asIntOf,run_underlying hu,W,AS u,z]
theorem WL {n:Nat}(ho:o.op=.indexAddr t x y)(W:P.underlying t=some (.array n e))(u:P.info? e=some i):S4 o a P w S ρ β M vs v (.ixaA n i.size) [a.eval x,a.eval y]:=fun z E N=>by
  cases E with|cons h t =>
  cases t with|cons Y t =>
  cases t
  simp only[Aq,Ahd]at N
  obtain⟨j,Q,E⟩:=N
  obtain⟨k,U,J⟩:=GF Y Q
  obtain⟨p,hp,Z⟩:=Tq (n:=j*i.size) (v:=v) h E
  refine .val z Z ?_
  simp[execOp,ho,hp,U,Instr.indexAt,asIntOf,run_underlying W,Instr.sureAddr,J,AS u]
theorem AaI (ho:o.op=.index t x y)(Z:P.underlying t=some .string):S4 o a P w S ρ β M vs v .ixs [a.eval x,a.eval y]:=fun Q hv z=>by
  cases hv with|cons h t =>
  cases t with|cons h1 t =>
  cases t
  simp only[Aq]at z
  split at z
  · simp only[Ahd,vi,Ahe]at z
    obtain⟨j,W,c,E,rfl⟩:=z
    obtain⟨k,Y,U⟩:=GF h1 W
    obtain⟨s,hx,rfl⟩:=Eh (RepX.toV rfl h)
    rw[AT,AhD]at E
    have u:j<s.data.size:=by simpa using U
    have N:j<s.size:=u
    have J:c=(s.data[j]'u).toNat:=by
      have:s.data.toList[j]? = some (s.data[j]'u):=by simp
      rw[this]at E
      simpa using E.symm
    refine .val Q (RepX.ofV (.m (.i .u8 (Int.ofNat c)))) ?_
    have hg:s[j]? = some (s.data[j]'u):=getElem?_pos s j N
    simp[execOp,ho,hx,Y,Instr.index,asIntOf,run_underlying Z,hg,J]
  · cases z
theorem AaL {j:Nat}(Y:o.op=.extract x j):S4 o a P w S ρ β M vs v (.ext j) [a.eval x]:=fun N W u=>by
  cases W with|cons h t =>
  cases t
  simp only[Aq]at u
  split at u
  · obtain⟨cs,Q,U⟩:=RepV.tuL (RepX.toV rfl h)
    rw[AT]at u
    obtain⟨c,J,z⟩:=U.2 j v u
    refine .val N (RepX.ofV z) ?_
    have E:cs[j]? = some c:=by simpa using J
    simp[execOp,Y,Q,Instr.extract,E]
  · cases u
variable {α:Type}
theorem GC {β:Type}(f:α->β)(l:Array α):(l.map f).toList=l.toList.map f:=by simp
theorem AaE {f:Nat}{first cap:Array Operand}(u:f≠yN)(Q:o.op=.makeFunc (.func f) first cap)(U:first=#[]):S4 o a P w S ρ β M vs v (.mkf f) (cap.toList.map a.eval):=fun z N J=>by
  simp only[Aq,Ag,Ahe]at J
  obtain⟨W,rfl⟩:=J
  have E:=N.toL W
  rw[<-GC]at E
  refine .val z (RepX.ofV (E.toFn u)) ?_
  simp[execOp,Q,U,Instr.makeFunc]
theorem AaB (U:o.op=.nilCheck x):S4 o a P w S ρ β M vs v .nck [a.eval x]:=fun J Q z=>by
  cases Q with|cons h t =>
  cases t
  rename_i N
  have E:v=N/\((∃p,a.eval x=.pointer (some p))\/(∃f cs,a.eval x=.func (.func f) #[] cs) \/ ∃l,a.eval x=.func (.yield l) #[] #[]):=by
    simp only[Aq]at z
    split at z
    · cases z;exact⟨rfl,.inl ⟨_,h⟩⟩
    · cases z
      refine⟨rfl,.inl ?_⟩
      have h:=RepX.toV rfl h
      generalize a.eval x=c at h
      cases h;exact⟨_,rfl⟩
    · cases z
      obtain⟨b,off,u,_⟩:=Pl (RepX.toV rfl h)
      exact⟨rfl,.inl ⟨_,u⟩⟩
    · cases z
      obtain⟨_,cs,u,_⟩:=RepV.fnL (RepX.toV rfl h)
      exact⟨rfl,.inr (.inl ⟨_,cs,u⟩)⟩
    · cases z
      have h:=(RepX.toV rfl h).imm
      generalize a.eval x=c at h
      cases h;exact⟨rfl,.inr (.inl ⟨_,_,rfl⟩)⟩
    · cases z
      have h:=RepX.toV rfl h
      generalize a.eval x=c at h
      cases h;exact⟨rfl,.inr (.inr ⟨_,rfl⟩)⟩
    · cases z
  obtain⟨rfl,u⟩:=E
  refine .val J h ?_
  rcases u with ⟨p,u⟩|⟨f,cs,u⟩|⟨l,u⟩ <;> simp[execOp,U,u]
variable {c:Go.Call}
theorem AD {b:Builtin}{r:Sem Value}{x:Value}{w':World}(J:o.op=.call c)(N:c.callee=.builtin b) 
    (z:∀u,builtin b c.argTypes o.type u (c.args.map a.eval)=(do pure (.value (<-r)))) (E:r.run P w=.ok x w'):(execOp a.eval o).run P w=.ok (.value x) w':=by
  simp[execOp,J,resolve,N,invoke,z,E]
theorem Zy (mx:Bool):∀(r:List V) (cs:List Value) (k:IntKind) (x:Int),All2 (RepX w S ρ β H) r cs->mmX mx k x r=some v ->
    ∃n,v=.m (.i k n)/\(cs.foldlM (match mx with|true=>Builtin.max2|false=>Builtin.min2) (.int k x):Sem Value).run P w=.ok (.int k n) w
  | [],cs,k,x,hr,he=>by
    cases hr
    simp only[mmX,vi,Ahe]at he
    exact⟨x,he.symm,by simp⟩
  | y::r,cs,k,x,hr,he=>by
    cases hr with|cons h t =>
    rename_i c cs
    unfold mmX at he
    split at he <;> rename_i E
    · cases E
    · rename_i J z U
      cases E
      have N:=Cd (RepX.toV rfl h)
      subst N
      obtain⟨n,Q,u⟩:=Zy mx _ cs k _ t he
      refine⟨n,Q,?_⟩
      cases mx
      · simp only[List.foldlM_cons,Sem.run_bind]
        have:(Builtin.min2 (.int k x) (.int J z)).run P w=.ok (.int k (AeJ x z)) w:=by
          simp only[Builtin.min2,AeJ,CT,Sem.run_pure]
          by_cases h:z<x <;> simp[h]
        rw[this]
        exact u
      · simp only[List.foldlM_cons,Sem.run_bind]
        have:(Builtin.max2 (.int k x) (.int J z)).run P w=.ok (.int k (AeK x z)) w:=by
          simp only[Builtin.max2,AeK,CT,Sem.run_pure]
          by_cases h:x<z <;> simp[h]
        rw[this]
        exact u
    · cases he
theorem Zq {mx:Bool}(W:o.op=.call c)(Q:c.callee=.builtin (match mx with|true=>.max|false=>.min)):S4 o a P w S ρ β M vs v (.mm mx) (c.args.toList.map a.eval):=fun J E z=>by
  cases vs with
  | nil=>simp[Aq]at z
  | cons x r =>
    cases hargs:c.args.toList.map a.eval with
    | nil=>rw[hargs]at E;cases E
    | cons Z cs =>
      rw[hargs]at E
      cases E with|cons h t =>
      simp only[Aq]at z
      split at z
      · rename_i k N
        have Y:=Cd (RepX.toV rfl h)
        subst Y
        obtain⟨n,rfl,u⟩:=Zy (P:=P) mx r cs k N t z
        have U:(c.args.map a.eval).toList=.int k N::cs:=by rw[<-hargs];simp
        refine .val J (RepX.ofV (.m (.i k n))) ?_
        cases mx
        · exact AD W Q (fun _=>rfl) (by simp only[Builtin.min_,U];exact u)
        · exact AD W Q (fun _=>rfl) (by simp only[Builtin.max_,U];exact u)
      · cases z
theorem AbY {β:Type}{l:Array α}{f:α->β}{x:β}(h:l.toList.map f=[x]):l.map f=#[x]:=by
  rw[<-GC]at h
  exact Array.toList_inj.1 (by simpa using h)
theorem AbX {β:Type}{l:Array α}{f:α->β}{x y:β}(h:l.toList.map f=[x,y]):l.map f=#[x,y]:=by
  rw[<-GC]at h
  exact Array.toList_inj.1 (by simpa using h)
theorem ET {c:Value}(h:RepV w S ρ H (.m (.nl 4)) c):c=.slice none 0 0:=by have:=h.imm;cases this;rfl
theorem ZH {x y:Bool}(h:eqB x y=true):y=x:=by cases x <;> cases y <;> simp[eqB]at h ⊢
theorem SR {str:Bool}(ho:o.op=.call c)(hb:c.callee=.builtin .len)(N:c.argTypes[0]? = some t)(W:Ok w S ρ β M)(hv:All2 (RepX w S ρ β M.H) vs (c.args.toList.map a.eval))(z:Aq (.len str) vs=some v)(Q:str=true->P.underlying t=some .string)(E:str=false -> ∃e,P.underlying t=some (.slice e)):
    Outc w S ρ β M (.p (.len str)) v M ((execOp a.eval o).run P w):=by
  cases vs with
  | nil=>simp[Aq]at z
  | cons x r =>
    cases r with
    | cons y r=>simp[Aq]at z
    | nil =>
      obtain⟨c0,J,h⟩:=hv.inv1
      have hm:=AbY J
      have fin:∀n:Nat,v=.m (.i .i64 (Int.ofNat n))->(Builtin.len_ c.argTypes o.type #[c0]).run P w=.ok (.int .i64 (n:Int)) w->Outc w S ρ β M (.p (.len str)) v M ((execOp a.eval o).run P w):=fun n Z hr=>by
        subst Z
        exact .val W (RepX.ofV (.m (.i .i64 (Int.ofNat n)))) (AD ho hb (fun _=>by rw[hm];rfl) hr)
      simp only[Aq,vi,Ag]at z
      obtain⟨U,z⟩:=z
      have U:=ZH U
      subst U
      split at z
      · simp only[Ahe]at z
        obtain⟨e,u⟩:=E rfl
        have hc:=ET (RepX.toV rfl h)
        subst hc
        exact fin 0 z.symm (by simp[Builtin.len_,N,run_underlying u,goInt])
      · rename_i es
        simp only[Ahe]at z
        obtain⟨e,u⟩:=E rfl
        obtain⟨ad,cap,rfl,_⟩:=Ee (RepX.toV rfl h).imm
        exact fin es.length z.symm (by simp[Builtin.len_,N,run_underlying u,goInt])
      · rename_i es
        simp only[Ahe]at z
        obtain⟨e,u⟩:=E rfl
        obtain⟨ad,cap,rfl,_⟩:=Ee (Jz (RepX.toV rfl h))
        exact fin es.length z.symm (by simp[Builtin.len_,N,run_underlying u,goInt])
      · rename_i l
        simp only[Ahe]at z
        have u:=Q rfl
        obtain⟨s,rfl,rfl⟩:=Eh (RepX.toV rfl h)
        exact fin _ z.symm (by simp[Builtin.len_,N,run_underlying u,goInt])
      · rename_i r ver Y st len lim
        simp only[Ahe]at z
        obtain⟨e,u⟩:=E rfl
        have h:=RepX.toV rfl h
        cases h
        exact fin len z.symm (by simp[Builtin.len_,N,run_underlying u,goInt])
      · cases z
end
end Go.Mx
namespace Go.Mx
section
variable {P:Program} {w:World} {S:Nat->Prop} {ρ β:Nat->Nat} {M:Mem} {H:Hp} {o:Oper} {a:Act} {hi:Hint} {vs:List V} {v:V}
variable {n:Nat} {c:Value}
theorem DF {j:Nat}{x:V}(h:RepX w S ρ β H x c)(u:bnd n x=some j):∃k,c=.int k (j:Int)/\j<=n:=by
  unfold bnd at u
  split at u
  · simp only[Ag,Ahe,AhS]at u
    obtain⟨z,rfl⟩:=u
    exact⟨_,Cd (RepX.toV rfl h),z⟩
  · cases u
theorem Cj {isS lo hi mx:Bool}{c l h:Nat}{vs:List V}{cs:List Value}{Q U N:Option Value}(hn:n<=c)(z:cs=Q.toList++U.toList++N.toList) 
    (Y:Q.isSome=lo) (Z:U.isSome=hi) (a0:N.isSome=mx) (hv:All2 (RepX w S ρ β H) vs cs) (W:KK n lo hi mx vs=some (l,h)) :
    (Instr.sliceBounds isS n c Q U N).run P w=.ok (l,h,if mx then h else c) w/\l<=h/\h<=n:=by
  have sb:∀(k:IntKind) (j m:Nat) (a1:BoundsCode),j<=m->(Instr.sliceBound (.int k (j:Int)) m a1).run P w=.ok j w:=fun k j m a1 hj=>by
    have:=run_sliceBound (P:=P) (w:=w) k (j:Int) m a1 (by omega) (by omega)
    simpa using this
  unfold KK at W
  split at W
  · cases Q <;> simp at Y
    cases U <;> simp at Z
    cases N <;> simp at a0
    simp only[Ahe,Ahf]at W
    obtain⟨rfl,rfl⟩:=W
    exact⟨by simp[Instr.sliceBounds],Aho _,Ahk _⟩
  · obtain⟨Q,rfl⟩:=Aii.1 Y
    cases U <;> simp at Z
    cases N <;> simp at a0
    simp only[Ahd,Ahe,Ahf]at W
    obtain⟨j,hj,rfl,rfl⟩:=W
    obtain⟨c0,J,h0⟩:=hv.inv1
    simp[J]at z
    subst z
    obtain⟨k,rfl,u⟩:=DF h0 hj
    exact⟨by simp[Instr.sliceBounds,sb _ _ _ _ u],u,Ahk _⟩
  · cases Q <;> simp at Y
    obtain⟨U,rfl⟩:=Aii.1 Z
    cases N <;> simp at a0
    simp only[Ahd,Ahe,Ahf]at W
    obtain⟨j,hj,rfl,rfl⟩:=W
    obtain⟨c0,J,h0⟩:=hv.inv1
    simp[J]at z
    subst z
    obtain⟨k,rfl,u⟩:=DF h0 hj
    exact⟨by simp[Instr.sliceBounds,sb _ _ _ _ (AiB u hn)],Aho _,u⟩
  · obtain⟨Q,rfl⟩:=Aii.1 Y
    obtain⟨U,rfl⟩:=Aii.1 Z
    cases N <;> simp at a0
    simp only[Ahd,Ahe,Ahf]at W
    obtain⟨j,hj,i,hi',rfl,rfl⟩:=W
    obtain⟨c0,c1,J,h0,h1⟩:=hv.inv2
    simp[J]at z
    obtain⟨rfl,rfl⟩:=z
    obtain⟨k,rfl,u⟩:=DF h1 hj
    obtain⟨k',rfl,E⟩:=DF h0 hi'
    exact⟨by simp[Instr.sliceBounds,sb _ _ _ _ (AiB u hn),sb _ _ _ _ E],E,u⟩
  · cases Q <;> simp at Y
    obtain⟨U,rfl⟩:=Aii.1 Z
    obtain⟨N,rfl⟩:=Aii.1 a0
    simp only[Ahd,Ag,AhB,Ahe,Ahf]at W
    obtain⟨m,hm,j,hj,rfl,rfl,rfl⟩:=W
    obtain⟨c0,c1,J,h0,h1⟩:=hv.inv2
    simp[J]at z
    obtain⟨rfl,rfl⟩:=z
    obtain⟨k,rfl,u⟩:=DF h1 hm
    obtain⟨k',rfl,E⟩:=DF h0 hj
    exact⟨by simp[Instr.sliceBounds,sb _ _ _ _ (AiB u hn),sb _ _ _ _ E],Aho _,u⟩
  · obtain⟨Q,rfl⟩:=Aii.1 Y
    obtain⟨U,rfl⟩:=Aii.1 Z
    obtain⟨N,rfl⟩:=Aii.1 a0
    simp only[Ahd,Ag,AhB,Ahe,Ahf]at W
    obtain⟨m,hm,j,hj,rfl,i,hi',rfl,rfl⟩:=W
    obtain⟨c0,c1,c2,J,h0,h1,h2⟩:=hv.inv3
    simp[J]at z
    obtain⟨rfl,rfl,rfl⟩:=z
    obtain⟨k,rfl,u⟩:=DF h2 hm
    obtain⟨k',rfl,E⟩:=DF h1 hj
    obtain⟨k'',rfl,a2⟩:=DF h0 hi'
    exact⟨by simp[Instr.sliceBounds,sb _ _ _ _ (AiB u hn),sb _ _ _ _ E,sb _ _ _ _ a2],a2,u⟩
  · cases W
theorem EC {α β:Type}(f:α->β)(x y z:Option α):(x.toList++y.toList++z.toList).map f=(x.map f).toList++(y.map f).toList++(z.map f).toList:=by
  cases x <;> cases y <;> cases z <;> rfl
variable {es:LT}
theorem NB {ad:Option Addr}{cap l h m:Nat}{E:Nat}(hI:RepI w S (.sl es) (.slice ad n cap))(hl:l<=h)(hh:h<=n)(hm:h<=m)(hmc:m<=cap)(a0:∀e,e∈es->e.length=E):
    RepI w S (.sl ((es.drop l).take (h-l))) (.slice (if m=l then ad else ad.map (·.add (l*E))) (h-l) (m-l)):=by
  cases hI with
  | sl _ _ _ u b off cs a4 hmx N ha Z hc hr =>
    have z:((es.drop l).take (h-l)).length=h-l:=by rw[Ahx,AhT];omega
    have J:∀ {i e},((es.drop l).take (h-l))[i]? = some e->es[l+i]? = some e:=fun {i e} hi=>by
      rw[AhN]at hi
      split at hi
      · rwa[AiI]at hi
      · cases hi
    have Q:=RepI.sl (w:=w) (S:=S) ((es.drop l).take (h-l)) (if m=l then ad else ad.map (·.add (l*E))) (m-l) u b (off+l*u) (fun i j=>cs (l+i) j)
      (by omega) (by omega) (fun e W=>N e (List.mem_of_mem_drop (Ain W)))
      (fun a2=>by
        have a3:0<h-l:=by rw[<-z];exact AiN.2 a2
        have U:es≠[]:=by rintro rfl;simp at z;omega
        have a1:E=u:=by
          obtain⟨e,W⟩:=List.exists_mem_of_ne_nil es U
          rw[<-a0 e W,N e W]
        obtain⟨h1,h2⟩:=ha U
        subst h1
        rw[Ahj (by omega),a1]
        exact⟨by simp[Bz],h2⟩)
      (by obtain⟨p,rfl⟩:=Z;split;exact⟨_,rfl⟩;exact⟨_,rfl⟩)
      (fun i e j x hi Y=>by
        have:=hc _ _ _ _ (J hi) Y
        rw[<-this]
        congr 2
        rw[AhU]
        omega)
      (fun i e j x hi Y=>hr _ _ _ _ (J hi) Y)
    rw[z]at Q
    exact Q
theorem AaY (h:RepI w S (.sl es) c):∃n,∀e,e∈es->e.length=n:=by
  cases h with
  | sl _ _ _ u b off cs E J z U N Q W=>exact⟨u,z⟩
variable {x:Operand} {lo mx:Option Operand} {t:TypeId}
theorem NA {z:Nat}{hi:Option Operand}(ho:o.op=.slice t x lo hi mx)(hu:P.underlying t=some .string){l:List Nat} 
    (W:Ok w S ρ β M) (h:RepX w S ρ β M.H (.m (.s l)) (a.eval x)) (hv:All2 (RepX w S ρ β M.H) vs ((lo.toList++hi.toList++mx.toList).map a.eval)) (Z:Aq (.slc z lo.isSome hi.isSome mx.isSome) (.m (.s l)::vs)=some v) :
    Outc w S ρ β M (.p (.slc z lo.isSome hi.isSome mx.isSome)) v M ((execOp a.eval o).run P w):=by
  simp only[Aq,Ag,Ahd,Ahe]at Z
  obtain⟨_,N,⟨J,U⟩,Y,rfl⟩:=Z
  have Q:mx=none:=by cases mx <;> simp at N ⊢
  subst Q
  obtain⟨s,hx,rfl⟩:=Eh (RepX.toV rfl h)
  rw[EC]at hv
  have E:(s.data.toList.map UInt8.toNat).length=s.size:=by simp
  rw[E]at Y
  obtain⟨u,h1,h2⟩:=Cj (P:=P) (isS:=false) (c:=s.size) (Ahk _) rfl (by simp) (by simp) (by simp) hv Y
  refine .val W (RepX.ofV (.m (.s (s.extract J U) _ ?_))) ?_
  · have:(s.extract J U).data.toList=(s.data.toList.drop J).take (U-J):=by
      rw[ByteArray.data_extract,Array.toList_extract]
    rw[this,List.map_take,List.map_drop]
  · simp only[execOp,ho,hx,Instr.sliceAt,Sem.run_bind,run_underlying hu,Result.andThen_ok,Instr.slice]
    simp only[Option.map_none]at u
    simp[u]
theorem Pp (h:RepI w S (.sl es) c)(z:Ww n es=true):∀e,e∈es->e.length=n:=by
  obtain⟨k,u⟩:=AaY h
  cases es with
  | nil=>simp
  | cons e es =>
    simp only[Ww,AhB]at z
    have:=u e (by simp)
    intro x E
    rw[u x E]
    omega
theorem AaA {e:TypeId}{hi:Option Operand}{i:TypeInfo}{z:Nat}(ho:o.op=.slice t x lo hi mx)(hu:P.underlying t=some (.slice e))(hi':P.info? e=some i)(hz:i.size=z){x0:V} 
    (hok:Ok w S ρ β M) (h:RepX w S ρ β M.H x0 (a.eval x)) (hns:∀l,x0 ≠ .m (.s l)) (hv:All2 (RepX w S ρ β M.H) vs ((lo.toList++hi.toList++mx.toList).map a.eval)) (he:Aq (.slc z lo.isSome hi.isSome mx.isSome) (x0::vs)=some v) :
    Outc w S ρ β M (.p (.slc z lo.isSome hi.isSome mx.isSome)) v M ((execOp a.eval o).run P w):=by
  subst hz
  rw[EC]at hv
  have run:∀Y n cap,a.eval x=.slice Y n cap -> ∀l h m,(Instr.sliceBounds true n cap (lo.map a.eval) (hi.map a.eval) (mx.map a.eval)).run P w=.ok (l,h,m) w ->
      (execOp a.eval o).run P w=.ok (.value (.slice (if m=l then Y else Y.map (·.add (l*i.size))) (h-l) (m-l))) w:=fun Y n cap hx l h m hb=>by
    simp only[execOp,ho,hx,Instr.sliceAt,Sem.run_bind,run_underlying hu,Result.andThen_ok,Instr.slice,hb,AS hi',Sem.run_pure]
  simp only[Aq]at he
  replace he:=(Ag.1 he).2
  split at he
  · exact absurd rfl (hns _)
  · simp only[Ahd,Ahe]at he
    obtain⟨⟨u,Q⟩,hb,rfl⟩:=he
    have hx:=ET (RepX.toV rfl h)
    obtain⟨J,h1,h2⟩:=Cj (P:=P) (isS:=true) (c:=0) (Ahk _) rfl (by simp) (by simp) (by simp) hv hb
    have hr:=run _ _ _ hx _ _ _ J
    have hp0:u=0:=by omega
    have hq0:Q=0:=by omega
    subst hp0;subst hq0
    refine .val hok (RepX.ofV (.m .nls)) ?_
    rw[hr]
    simp
  · rename_i es
    simp only[Ag,Ahd,Ahe]at he
    obtain⟨hel,⟨u,Q⟩,hb,rfl⟩:=he
    have hI:=(RepX.toV rfl h).imm
    have hesz:=Pp hI hel
    obtain⟨Y,cap,hx,hcap,hcm,_⟩:=Ee hI
    rw[hx]at hI
    obtain⟨J,h1,h2⟩:=Cj (P:=P) (isS:=true) (c:=cap) hcap rfl (by simp) (by simp) (by simp) hv hb
    have W:=fun m (hm:Q<=m) (Z:m<=cap)=>NB hI h1 h2 hm Z hesz
    have hr:=run _ _ _ hx _ _ _ J
    have U:((es.drop u).take (Q-u)).length=Q-u:=by rw[Ahx,AhT];omega
    cases E:mx.isSome with
    | true =>
      rw[E]at hr
      refine .val hok (RepX.ofV ?_) hr
      simp only[if_true]
      have hc:=W Q (Ahk _) (by omega)
      have:=RepV.ls (w:=w) (S:=S) (ρ:=ρ) (H:=M.H) ((es.drop u).take (Q-u)) (if Q=u then Y else Y.map (·.add (u*i.size))) (by rw[U];exact hc)
      rw[U]at this
      exact this
    | false =>
      rw[E]at hr
      refine .val hok (RepX.ofV (.m ?_)) hr
      simp only[AiG,if_false]
      exact W cap (by omega) (Ahk _)
  · rename_i es
    simp only[Ag,Ahd,Ahe]at he
    obtain⟨hel,⟨u,Q⟩,hb,rfl⟩:=he
    have hV:=RepX.toV rfl h
    have hI:=Jz hV
    have hesz:=Pp hI hel
    obtain⟨Y,hx⟩:∃Y,a.eval x=.slice Y es.length es.length:=by generalize a.eval x=c at hV;cases hV;exact⟨_,rfl⟩
    rw[hx]at hI
    obtain⟨J,h1,h2⟩:=Cj (P:=P) (isS:=true) (c:=es.length) (Ahk _) rfl (by simp) (by simp) (by simp) hv hb
    have W:=fun m (hm:Q<=m) (Z:m<=es.length)=>NB hI h1 h2 hm Z hesz
    have hr:=run _ _ _ hx _ _ _ J
    have U:((es.drop u).take (Q-u)).length=Q-u:=by rw[Ahx,AhT];omega
    have lsr:∀m,m=Q->(hm:Q<=m)->(Z:m<=es.length)->RepV w S ρ M.H (.ls ((es.drop u).take (Q-u))) (.slice (if m=u then Y else Y.map (·.add (u*i.size))) (Q-u) (m-u)):=fun m hmp hm Z=>by
      subst hmp
      have hc:=W m hm Z
      have:=RepV.ls (w:=w) (S:=S) (ρ:=ρ) (H:=M.H) ((es.drop u).take (m-u)) (if m=u then Y else Y.map (·.add (u*i.size))) (by rw[U];exact hc)
      rw[U]at this
      exact this
    cases E:mx.isSome with
    | true =>
      rw[E]at hr
      refine .val hok (RepX.ofV ?_) hr
      simp only[if_true,Bool.true_or]
      exact lsr Q rfl (Ahk _) (by omega)
    | false =>
      rw[E]at hr
      refine .val hok (RepX.ofV ?_) hr
      simp only[AiG,if_false,Bool.false_or]
      cases hbq:Nat.beq Q es.length with
      | true=>exact lsr es.length (Ahy hbq).symm (by omega) (Ahk _)
      | false=>exact .m (W es.length (by omega) (Ahk _))
  · rename_i r ver esz st len lim
    simp only[Ag,AhB,Ahd,Ahe]at he
    obtain⟨hsz,⟨u,Q⟩,hb,rfl⟩:=he
    subst hsz
    have hV:=RepX.toV rfl h
    generalize hx:a.eval x=c at hV
    cases hV with
    | sl _ _ _ _ _ _ ty es base fz Y cap hrow h1 h2 h3 h4 h5 hn hb' ha =>
      obtain⟨J,k1,k2⟩:=Cj (P:=P) (isS:=true) (c:=cap) h3 rfl (by simp) (by simp) (by simp) hv hb
      have hr:=run _ _ _ hx _ _ _ J
      refine .val hok (RepX.ofV ?_) hr
      refine .sl r ver i.size (st+u) (Q-u) _ ty es base fz _ _ hrow (by omega) h2 ?_ ?_ ?_ ?_ ?_ ?_
      · split <;> omega
      · split <;> omega
      · intro N
        cases E:mx.isSome with
        | true=>simp
        | false =>
          rw[E]at N
          simp only[Bool.false_or,Ahi,AhB]at N
          have:=h5 N.1
          simp
          omega
      · obtain⟨p,hp⟩:=hn
        subst hp
        have key:∀q:Nat,∃p',(if q=u then some p else Option.map (fun x=>x.add (u*i.size)) (some p))=some p':=fun q=>by split <;> exact⟨_,rfl⟩
        exact key _
      · intro hbv hpos
        obtain⟨b,hp,hA⟩:=hb' hbv (by omega)
        subst hp
        have hne:¬(if mx.isSome=true then Q else cap)=u:=by split <;> omega
        rw[Ahj hne]
        exact⟨b,by simp[Bz,AhU],hA⟩
      · intro hve hst N hle
        have E:mx.isSome=false:=by cases E:mx.isSome <;> simp[E]at N ⊢
        have hl0:lim=false:=by
          cases lim with
          | false=>rfl
          | true =>
            rw[E]at N
            have hbq:Nat.beq Q len=true:=by rw[AhB];omega
            simp[hbq]at N
        obtain⟨hp,cur,mk,hh,hcs⟩:=ha hve (by omega) hl0 (by omega)
        subst hp
        have hp0:u=0:=by omega
        subst hp0
        refine⟨?_,cur,mk,hh,?_⟩
        · split <;> simp[Bz]
        · rw[E];simpa using hcs
  · cases he
end
end Go.Mx
namespace Go.Mx
section
variable {P:Program} {w:World} {S:Nat->Prop} {ρ β:Nat->Nat} {M:Mem} {H:Hp}
def Vt (P:Program)(t:TypeId)(c:Value)(cs:List Value):Prop:=(Cn P t=some true /\ ∃a:Array Value,c=.agg a/\a.toList=cs)\/(Cn P t=some false/\cs=[c])
def LI (w:World)(S:Nat->Prop)(xs:List I)(cs:List Value):Prop:=RepL w S id [] (xs.map .m) cs
variable {xs:List I} {cs:List Value}
theorem LI.ofL (h:RepL w S ρ H (xs.map .m) cs):LI w S xs cs:=by
  obtain⟨N,c,E,J⟩:=h.toI
  refine⟨by simpa using N,fun j x u=>?_⟩
  simp only[AhD,AhM]at u
  obtain⟨y,z,rfl⟩:=u
  exact⟨c j,E j y z,.m (J j y z)⟩
theorem LI.len (h:LI w S xs cs):cs.length=xs.length:=by have:=h.1;simpa using this
theorem LI.drop (h:LI w S xs cs)(n:Nat):LI w S (xs.drop n) (cs.drop n):=by have:=RepL.drop h n;rwa[<-List.map_drop]at this
theorem LI.take (h:LI w S xs cs)(n:Nat):LI w S (xs.take n) (cs.take n):=by have:=RepL.take h n;rwa[<-List.map_take]at this
variable {c:Value}
theorem LI.one {x:I}(h:LI w S [x] [c]):RepI w S x c:=(RepL.head (xs:=[]) (cs:=[]) h).imm
variable {t:TypeId} {i:TypeInfo}
theorem Abh {ag:Bool}(w:World)(u:Cn P t=some ag)(hi:P.info? t=some i)(hs:ag=false->i.size=1){cs:Array Value}{off:Nat}(hl:ag=false->off<cs.size):
    ∃c,(part t cs off).run P w=.ok c w/\Vt P t c ((cs.toList.drop off).take i.size):=by
  cases ag with
  | true =>
    refine⟨.agg (cs.extract off (off+i.size)),by simp[part,DN u,AS hi],.inl ⟨u,_,rfl,?_⟩⟩
    simp[List.take_drop]
  | false =>
    obtain⟨c,z⟩:∃c,cs[off]? = some c:=⟨_,Array.getElem?_eq_getElem (hl rfl)⟩
    refine⟨c,by simp[part,DN u,z],.inr ⟨u,?_⟩⟩
    rw[hs rfl]
    have E:cs.toList[off]? = some c:=by simpa using z
    obtain⟨N,J⟩:=Ahg.1 E
    rw[AiC N,J]
    rfl
theorem FE:∀(u z:List Nat) (xs ys:List I) (r:Bool),Fs (u++z) xs ys=some r ->
    ∃E J,Fs u (xs.take u.length) (ys.take u.length)=some E/\Fs z (xs.drop u.length) (ys.drop u.length)=some J/\r=(E&&J)
  | [],z,xs,ys,r,h=>⟨true,r,by simp[Fs],by simpa using h,by simp⟩
  | k::u,z,xs,ys,r,h=>by
    cases xs with
    | nil=>simp[Fs]at h
    | cons x xs =>
      cases ys with
      | nil=>simp[Fs]at h
      | cons y ys =>
        simp only[Aig,Fs,Ahd,Ahe]at h
        obtain⟨a,N,b,W,rfl⟩:=h
        obtain⟨E,J,U,Q,rfl⟩:=FE u z xs ys b W
        exact⟨a&&E,J,by simp[Fs,N,U],by simpa using Q,by simp[Bool.and_assoc]⟩
theorem Ek:∀(ks:List Nat) (xs ys:List I) (r:Bool),Fs ks xs ys=some r->xs.length=ks.length/\ys.length=ks.length
  | [],[],[],_,_=>by simp
  | [],_::_,_,_,h=>by simp[Fs]at h
  | [],[],_::_,_,h=>by simp[Fs]at h
  | _::_,[],_,_,h=>by simp[Fs]at h
  | _::_,_::_,[],_,h=>by simp[Fs]at h
  | k::ks,x::xs,y::ys,r,h=>by
    simp only[Fs,Ahd,Ahe]at h
    obtain⟨a,z,b,u,rfl⟩:=h
    have:=Ek ks xs ys b u
    simp[this.1,this.2]
variable {k:Nat} {r:Bool}
theorem Ix {x y:I}{u:Value}(h:eqC k x y=some r)(E:RepI w S x c)(z:RepI w S y u):
    (k=0 /\ ∃a b,c=.bool a/\u=.bool b/\r=(a==b))\/(k=1 /\ ∃j a b,c=.int j a/\u=.int j b/\r=(a==b))\/(k=2 /\ ∃a b,c=.string a/\u=.string b/\r=(a==b)):=by
  unfold eqC at h
  split at h
  · simp only[Ag,AhB,Ahe]at h
    obtain⟨rfl,rfl⟩:=h
    cases E;cases z
    exact .inl ⟨rfl,_,_,rfl,rfl,rfl⟩
  · simp only[Ag,Ahi,AhB,ZG,Ahe]at h
    obtain⟨⟨rfl,rfl⟩,rfl⟩:=h
    cases E;cases z
    exact .inr (.inl ⟨rfl,_,_,_,rfl,rfl,DW ..⟩)
  · simp only[Ag,AhB,Ahe]at h
    obtain⟨rfl,rfl⟩:=h
    cases E with|s a _ J =>
    cases z with|s b _ Q =>
    subst J;subst Q
    refine .inr (.inr ⟨rfl,_,_,rfl,rfl,?_⟩)
    rw[Iw]
    rw[beq_toListBytes,ByteArray.toList_eq,ByteArray.toList_eq]
    by_cases e:a.data.toList=b.data.toList
    · rw[e];simp
    · have N:¬a.data.toList.map UInt8.toNat=b.data.toList.map UInt8.toNat:=fun h=>e (Cp.1 h)
      rw[Ahs N,beq_eq_false_iff_ne.2 e]
  · cases h
def EqT (P:Program)(d:Nat)(t:TypeId)(ks:List Nat):Prop:=∀(w:World) (S:Nat->Prop) (c c':Value) (cs cs':List Value) (xs ys:List I) (r:Bool),Vt P t c cs->Vt P t c' cs'->LI w S xs cs->LI w S ys cs'->Fs ks xs ys=some r->(Op.equalIn d t c c').run P w=.ok r w
variable {ks:List Nat}
theorem My (h:CR P k t=some ks):∃ag,Cn P t=some ag/\(ag=false->ks.length=1):=by
  cases k with
  | zero=>simp[CR]at h
  | succ k =>
    simp only[CR]at h
    split at h
    · rename_i u
      exact⟨false,by simp[Cn,u],fun _=>by simp at h;simp[<-h]⟩
    · rename_i u
      exact⟨false,by simp[Cn,u],fun _=>by simp at h;simp[<-h]⟩
    · rename_i u
      exact⟨false,by simp[Cn,u],fun _=>by simp at h;simp[<-h]⟩
    · rename_i u
      exact⟨true,by simp[Cn,u],by simp⟩
    · rename_i u
      exact⟨true,by simp[Cn,u],by simp⟩
    · cases h
theorem DV (h:CR P k t=some ks)(hi:P.info? t=some i)(u:i.size=ks.length){E:Array Value}{o:Nat}(N:LI w S xs (E.toList.drop o))(hl:ks.length<=xs.length):
    ∃c,(part t E o).run P w=.ok c w/\Vt P t c ((E.toList.drop o).take ks.length):=by
  obtain⟨ag,z,J⟩:=My h
  rw[<-u]
  refine Abh w z hi (fun e=>by rw[u];exact J e) (fun e=>?_)
  have:=N.len
  simp at this
  have:=J e
  omega
theorem It {d k:Nat}(Y:∀t ks,CR P k t=some ks->EqT P d t ks)(S:Nat->Prop)(Q N:Array Value):∀(J:List Field) (o:Nat) (ks:List Nat),JG (CR P k) (BD P) o J=some ks ->
    ∀(xs ys:List I) (r:Bool),LI w S xs (Q.toList.drop o)->LI w S ys (N.toList.drop o)->Fs ks xs ys=some r->(Op.eqFields d Q N J).run P w=.ok r w
  | [],o,ks,h,xs,ys,r,hx,hy,he=>by
    simp only[JG,Ahe]at h
    subst h
    have:r=true:=by
      cases xs <;> cases ys <;> simp[Fs]at he
      exact he
    subst this
    simp[Op.eqFields]
  | f::J,o,ks,h,xs,ys,r,hx,hy,he=>by
    simp only[JG,Ag,Ahi,AhB,Aht,Ahd,Ahe,AR]at h
    obtain⟨⟨ho,hn⟩,s,U,s',⟨i,hi,rfl⟩,u,l,hl,rfl⟩:=h
    obtain⟨Z,r2,h1,h2,rfl⟩:=FE _ _ _ _ _ he
    have W:=Ek _ _ _ _ he
    simp at W
    obtain⟨c,p1,v1⟩:=DV U hi u.symm hx (by omega)
    obtain⟨c',p2,v2⟩:=DV U hi u.symm hy (by omega)
    have e1:=Y _ _ U w S c c' _ _ _ _ Z v1 v2 (hx.take _) (hy.take _) h1
    simp only[Op.eqFields,hn,ne_eq,not_false_eq_true,if_true,ho,Sem.run_bind,p1,p2,e1,Result.andThen_ok]
    have E:=hx.drop s.length
    have z:=hy.drop s.length
    rw[Aiw]at E z
    rw[<-u]at hl
    have ih:=It Y S Q N J (o+s.length) l hl _ _ r2 E z h2
    cases Z
    · simp
    · simpa using ih
theorem JF {d k:Nat}{e:TypeId}{s:List Nat}(hs:CR P k e=some s)(U:EqT P d e s){i:TypeInfo}(hi:P.info? e=some i)(u:i.size=s.length)(S:Nat->Prop)(N J:Array Value):∀(n j:Nat) (xs ys:List I) (r:Bool),
    LI w S xs (N.toList.drop (j*s.length))->LI w S ys (J.toList.drop (j*s.length))->Fs (List.replicate n s).flatten xs ys=some r->(Op.eqItems d e s.length N J (List.range' j n)).run P w=.ok r w
  | 0,j,xs,ys,r,hx,hy,he=>by
    have:r=true:=by
      cases xs <;> cases ys <;> simp[Fs]at he
      exact he
    subst this
    simp[Op.eqItems]
  | n+1,j,xs,ys,r,hx,hy,he=>by
    rw[List.replicate_succ,Aic]at he
    obtain⟨W,r2,h1,h2,rfl⟩:=FE _ _ _ _ _ he
    have Q:=Ek _ _ _ _ he
    simp only[Ahv]at Q
    obtain⟨c,p1,v1⟩:=DV hs hi u hx (by omega)
    obtain⟨c',p2,v2⟩:=DV hs hi u hy (by omega)
    have Y:=U w S c c' _ _ _ _ W v1 v2 (hx.take _) (hy.take _) h1
    simp only[List.range'_succ,Op.eqItems,Sem.run_bind,p1,p2,Y,Result.andThen_ok]
    have E:=hx.drop s.length
    have z:=hy.drop s.length
    rw[Aiw,show j*s.length+s.length=(j+1)*s.length by rw[AhU];omega]at E z
    have Z:=JF hs U hi u S N J n (j+1) _ _ r2 E z h2
    cases W
    · simp
    · simpa using Z
theorem Vt.agg (h:Vt P t c cs)(u:Cn P t=some true):∃a:Array Value,c=.agg a/\a.toList=cs:=by
  rcases h with h|h
  · exact h.2
  · rw[u]at h;cases h.1
theorem Vt.cell (h:Vt P t c cs)(u:Cn P t=some false):cs=[c]:=by
  rcases h with h|h
  · rw[u]at h;cases h.1
  · exact h.2
theorem KE {x y:List I}(h:Fs [k] x y=some r):∃a b,x=[a]/\y=[b]/\eqC k a b=some r:=by
  have:=Ek _ _ _ _ h
  match x,y,this with
  | [a],[b],_ =>
    simp only[Fs,Ahd,Ahe]at h
    obtain⟨p,u,q,rfl,rfl⟩:=h
    exact⟨a,b,rfl,rfl,by simpa using u⟩
theorem Kv:∀(k:Nat) (t:TypeId) (ks:List Nat),CR P k t=some ks -> ∀d,EqT P (d+k) t ks
  | 0,_,_,h,_=>by simp[CR]at h
  | k+1,t,ks,h,d=>by
    intro w S c c' cs cs' xs ys r N J W E Q
    simp only[CR]at h
    split at h
    · rename_i z
      have u:Cn P t=some false:=by simp[Cn,z]
      simp only[Ahe]at h
      subst h
      obtain⟨a,b,rfl,rfl,Y⟩:=KE Q
      have:=N.cell u;subst this
      have:=J.cell u;subst this
      rcases Ix Y W.one E.one with ⟨_,p,q,rfl,rfl,rfl⟩|⟨h,_⟩|⟨h,_⟩
      · exact run_equalIn_bool w _ t p q z
      · cases h
      · cases h
    · rename_i kk z
      have u:Cn P t=some false:=by simp[Cn,z]
      simp only[Ahe]at h
      subst h
      obtain⟨a,b,rfl,rfl,Y⟩:=KE Q
      have:=N.cell u;subst this
      have:=J.cell u;subst this
      rcases Ix Y W.one E.one with ⟨h,_⟩|⟨_,j,p,q,rfl,rfl,rfl⟩|⟨h,_⟩
      · cases h
      · exact run_equalIn_int w _ t j kk p q z
      · cases h
    · rename_i z
      have u:Cn P t=some false:=by simp[Cn,z]
      simp only[Ahe]at h
      subst h
      obtain⟨a,b,rfl,rfl,Y⟩:=KE Q
      have:=N.cell u;subst this
      have:=J.cell u;subst this
      rcases Ix Y W.one E.one with ⟨h,_⟩|⟨h,_⟩|⟨_,p,q,rfl,rfl,rfl⟩
      · cases h
      · cases h
      · rw[beq_toListBytes];exact run_equalIn_string w _ t p q z
    · rename_i fs z
      have u:Cn P t=some true:=by simp[Cn,z]
      simp only[Ag,AhQ]at h
      obtain⟨a0,h⟩:=h
      obtain⟨a,rfl,rfl⟩:=N.agg u
      obtain⟨b,rfl,rfl⟩:=J.agg u
      have Z:P.fieldsOf t=fs:=by simp[Program.fieldsOf,z]
      rw[<-Nat.add_assoc,run_equalIn_struct w (d+k) t a b (by rw[Z];exact z) a0,Z]
      exact It (fun t ks hk=>Kv k t ks hk d) S a b fs.toList 0 ks h xs ys r (by simpa using W) (by simpa using E) Q
    · rename_i n e z
      have u:Cn P t=some true:=by simp[Cn,z]
      simp only[Ahd,Ag,AhB,Ahe,AR]at h
      obtain⟨s,hs,s',⟨i,hi,rfl⟩,U,rfl⟩:=h
      obtain⟨a,rfl,rfl⟩:=N.agg u
      obtain⟨b,rfl,rfl⟩:=J.agg u
      have a1:P.cellsOf e=s.length:=by simp[Program.cellsOf,hi,U]
      rw[<-Nat.add_assoc,run_equalIn_array w (d+k) a b z hi,a1,List.range_eq_range']
      exact JF hs (Kv k e s hs d) hi U.symm S a b n 0 xs ys r (by simpa using W) (by simpa using E) Q
    · cases h
end
end Go.Mx
