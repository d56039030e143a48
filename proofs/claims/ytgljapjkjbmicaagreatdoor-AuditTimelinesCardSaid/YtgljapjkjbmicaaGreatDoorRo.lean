/- delta.Apply ranges over a map once: the pieces of its code, as a primitive of the machine. -/
import Derived.Test.YtgljapjkjbmicaaGreatDoorBd
import Derived.Maps.RangeRun
import Derived.Test.YtgljapjkjbmicaaGreatDoorWa
import Derived.Test.YtgljapjkjbmicaaGreatDoorCodeK0
import Derived.Test.YtgljapjkjbmicaaGreatDoorCodeK1
set_option linter.unusedSimpArgs false
set_option linter.unusedVariables false
set_option linter.unusedSectionVars false
set_option maxRecDepth 100000
namespace Go.Mx
open Go.Proofs Go.ChangeMaps
section
variable {P : Program} {hi : Hint} {gl : Nat -> Option (List I)} {nt : Nat} {ds : List Deferred} {call : Bp} {rd : Option Nat}
def noD (ops : Array Oper) (l : List Nat) (n0 : Nat) : Prop:=∀ i,i ∈ l -> ∀ o,ops[i]? = some o -> o.dst ≠ some n0
theorem Ys {a : Act} {o : Oper} {n0 : Nat} (h : o.dst ≠ some n0) (c : Value) : (a.put o.dst c).tmps.getD n0 undef = a.tmps.getD n0 undef:=by
 cases hd : o.dst with
 | none=>rfl
 | some k =>
  have hne : k ≠ n0:=fun e=>h (by rw [hd,e])
  simp [Act.put,Array.getElem?_setIfInBounds_ne hne]
theorem Fd {ops : Array Oper} {Q : Exit -> Act -> World -> Prop} {n0 : Nat} (hcall : Cb P gl call) : ∀ (l : List Nat) (qs : List Op),All2 (Gh P hi gl nt ops) l qs -> noD ops l n0 -> ∀ (s s' : St) (a : Act) (w : World) (S : Nat -> Prop) (ρ β : Nat -> Nat),Bc call qs s = some s' -> Inv hi nt ds w S ρ β s a -> GlOk gl w S ->
  (∀ a' w' S' ρ' β',Inv hi nt ds w' S' ρ' β' s' a' -> Stp w S ρ β s.M w' S' ρ' s'.M.H -> Bx w β s.M.B β' s'.M.B -> a'.tmps.getD n0 undef = a.tmps.getD n0 undef -> Q .normal a' w') -> wpOpsIn (FW rd) 0 P ops Q l a w:=by
 intro l qs hl
 induction hl with
 | nil =>
  intro _ s s' a w S ρ β he hI hG hQ
  simp only [Bc,AaG] at he
  subst he
  exact hQ a w S ρ β hI (Stp.refl _ _ _ _ _) Bx.refl rfl
 | @cons i q l qs hq hl ih =>
  intro hnd s s' a w S ρ β he hI hG hQ
  obtain ⟨o,ho,hc,hwf⟩:=hq
  have hdst : o.dst ≠ some n0:=hnd i (by simp) o ho
  obtain ⟨g,qo,os,hg,rfl,hco⟩:=FK hc
  simp only [Bc,DD,AaF] at he
  obtain ⟨s1,⟨b,hb,he1⟩,he2⟩:=he
  have hwant:=GR hI hg hb
  simp only [wpOpsIn,ho,hwant]
  have tail : ∀ {c : Value} {w1 : World} {S1 : Nat -> Prop} {ρ1 β1 : Nat -> Nat},Inv hi nt ds w1 S1 ρ1 β1 s1 (a.put o.dst c) -> Stp w S ρ β s.M w1 S1 ρ1 s1.M.H -> Bx w β s.M.B β1 s1.M.B -> wpOpsIn (FW rd) 0 P ops Q l (a.put o.dst c) w1:=fun {c w1 S1 ρ1 β1} hI1 hst hbx =>
   ih (fun i hi=>hnd i (by simp [hi])) s1 s' _ w1 S1 ρ1 β1 he2 hI1 (hG.step hst) fun a' w' S' ρ' β' h1 h2 h3 h4=>hQ a' w' S' ρ' β' h1 (hst.trans hbx h2) (hbx.trans hst.size h3) (h4.trans (Ys hdst c))
  cases b with
  | true =>
   simp only [Ah,AaF] at he1
   obtain ⟨hfr,vs,hvs,⟨v,M'⟩,hev,hset⟩:=he1
   simp only [if_true]
   rcases hco with ⟨az,hco,hQ,hos⟩ | ⟨rfl,rfl⟩
   case inr=>simp [Ai] at hvs; subst hvs; simp [evO,Ap] at hev
   refine (PD hco hQ hcall hI.ok hG (Gn hI hG hos hvs) hev fun w' S' ρ' β' c hn=>?_)
   obtain ⟨h1,h2⟩:=hI.step rfl hwf hfr hn hset
   exact tail h1 (by rw [h2]; exact hn.stp) (by rw [h2]; exact hn.box)
  | false =>
   simp only [AbO,if_false]
   have hn : Nxt w S ρ β s.M (.p .mv) .un s.M w S ρ β undef:=⟨hI.ok,Stp.refl _ _ _ _ _,.un,fun _ _=>rfl,fun d hd=>.inl ⟨d,hd,rfl⟩⟩
   have hwf' : KF nt ⟨Uy hi o.dst,.p .mv,[],none⟩ = true:=by
    simp only [KF,AaJ] at hwf ⊢
    exact ⟨hwf.1,AbL⟩
   obtain ⟨h1,h2⟩:=hI.step rfl hwf' rfl hn he1
   exact ⟨fun _ _=>AbL,tail h1 (by rw [h2]; exact Stp.refl _ _ _ _ _) (by rw [h2]; exact Bx.refl)⟩
def Ut (call : Bp) : List (List Op) -> St -> Option St
 | [],s=>some s
 | qs :: r,s=>(Bc call qs s).bind fun s1=>Ut call r { s1 with L:=[] }
inductive RgsOk (P : Program) (hi : Hint) (gl : Nat -> Option (List I)) (nt n0 : Nat) : Code -> List (List Op) -> Prop where
 | one (id : Nat) (ops : Array Oper) (qs : List Op) (h : All2 (Gh P hi gl nt ops) (List.range ops.size) qs) (hd : noD ops (List.range ops.size) n0) : RgsOk P hi gl nt n0 (.region id ops false) [qs]
 | cons (id : Nat) (ops : Array Oper) (qs : List Op) (c : Code) (r : List (List Op)) (h : All2 (Gh P hi gl nt ops) (List.range ops.size) qs) (hd : noD ops (List.range ops.size) n0) (ht : RgsOk P hi gl nt n0 c r) : RgsOk P hi gl nt n0 (.seq (.region id ops false) c) (qs :: r)
theorem VI {n0 : Nat} (hcall : Cb P gl call) : ∀ {code : Code} {l : List (List Op)},RgsOk P hi gl nt n0 code l -> ∀ {s s' : St} {a : Act} {w : World} {S : Nat -> Prop} {ρ β : Nat -> Nat} {Q : Exit -> Act -> World -> Prop},Ut call l s = some s' -> Inv hi nt ds w S ρ β s a -> GlOk gl w S ->
  (∀ a' w' S' ρ' β',Inv hi nt ds w' S' ρ' β' s' a' -> Stp w S ρ β s.M w' S' ρ' s'.M.H -> Bx w β s.M.B β' s'.M.B -> a'.tmps.getD n0 undef = a.tmps.getD n0 undef -> Q .normal a' w') -> code.wpIn (FW rd) 0 P Q a w:=by
 intro code l h
 induction h with
 | one id ops qs h hd =>
  intro s s' a w S ρ β Q he hI hG hQ
  simp only [Ut,AaF,AaG] at he
  obtain ⟨s1,he,rfl⟩:=he
  exact wpIn_region (Fd hcall _ _ h hd s s1 a w S ρ β he hI hG fun a' w' S' ρ' β' h1 h2 h3 h4=>hQ a' w' S' ρ' β' h1.clear h2 h3 h4)
 | cons id ops qs c r h hd ht ih =>
  intro s s' a w S ρ β Q he hI hG hQ
  simp only [Ut,AaF] at he
  obtain ⟨s1,he,he2⟩:=he
  refine wpIn_seq (wpIn_region (Fd hcall _ _ h hd s s1 a w S ρ β he hI hG fun a1 w1 S1 ρ1 β1 h1 h2 h3 h4=>?_))
  exact ih he2 h1.clear (hG.step h2) fun a' w' S' ρ' β' k1 k2 k3 k4=>hQ a' w' S' ρ' β' k1 (h2.trans h3 k2) (h3.trans h2.size k3) (k4.trans h4)
structure Beside (i : Nat) (w : World) (S : Nat -> Prop) (ρ β : Nat -> Nat) (M : Mem) : Prop where
 ns : ¬ S i
 row : ∀ r,r < M.H.length -> i ≠ ρ r
 box : ∀ k,(getB M.B k).isSome -> i ≠ β k
theorem Beside.step {i : Nat} {w w' : World} {S S' : Nat -> Prop} {ρ β ρ' β' : Nat -> Nat} {M M' : Mem} (h : Beside i w S ρ β M) (hlt : i < w.heap.size) (k : Stp w S ρ β M w' S' ρ' M'.H) (b : Bx w β M.B β' M'.B) : Beside i w' S' ρ' β' M' /\ w'.heap[i]? = w.heap[i]?:=by
 refine ⟨⟨fun hs=>?_,fun r hr e=>?_,fun d hd e=>?_⟩,k.keep i hlt h.row h.box⟩
 ·rcases k.news i hs with g | g | ⟨r,hr,e⟩
  ·exact h.ns g
  ·omega
  ·exact h.row r hr e
 ·rcases k.rown r hr with ⟨q,hq,e'⟩ | g
  ·exact h.row q hq (e.trans e')
  ·omega
 ·rcases b d hd with ⟨q,hq,e'⟩ | g
  ·exact h.box q hq (e.trans e')
  ·omega
theorem Jf {o : Oper} {a : Act} {w w' : World} {c : Value} {next : Act -> World -> Prop} {Q : Exit -> Act -> World -> Prop} (hnd : ∀ c,o.op ≠ .defer c) (hr : (execOp a.eval o).run P w = .ok (.value c) w') (hn : next (a.put o.dst c) w') : o.wpIn (FW rd) 0 P a w next Q:=by
 refine ⟨fun _ _=>AbL,?_⟩
 rw [Gj hnd,hr]
 exact hn
structure Rg where
 qB : List Op
 qC : List Op
 rs : List (List Op)
 dr : List Nat
 tn : Nat
 te : Nat
 tb : Nat
def isT (b : Bool) : Option V -> Bool
 | some (.m (.b c))=>eqB b c
 | _=>false
def rg1 (call : Bp) (g : Rg) (s : St) (p : I × V) : Option St :=
 (Bc call g.qB ⟨Ar g.dr s.E,[(g.tn,.tu [.m (.b true),.m p.1,p.2])],s.M⟩).bind fun s1=>gd (isT true (BA s1.E g.tb))
  ((Bc call g.qC ⟨s1.E,[(g.te,.tu [.m p.1,p.2])],s1.M⟩).bind fun s2=>Ut call g.rs ⟨s2.E,[],s2.M⟩)
def rgE (call : Bp) (g : Rg) (s : St) : Option St :=
 (Bc call g.qB ⟨Ar g.dr s.E,[(g.tn,.tu [.m (.b false)])],s.M⟩).bind fun s1=>gd (isT false (BA s1.E g.tb)) (some ⟨s1.E,[],s1.M⟩)
def rgL (call : Bp) (g : Rg) : List (I × V) -> St -> Option St
 | [],s=>some s
 | p :: r,s=>(rg1 call g s p).bind fun s'=>rgL call g r s'
theorem KV (g : Rg) : ∀ (l m : List (I × V)) (s : St),rgL call g (l ++ m) s = (rgL call g l s).bind fun s'=>rgL call g m s'
 | [],m,s=>rfl
 | p :: r,m,s=>by
  show (rg1 call g s p).bind (fun s'=>rgL call g (r ++ m) s') = ((rg1 call g s p).bind fun s'=>rgL call g r s').bind fun s'=>rgL call g m s'
  cases rg1 call g s p with
  | none=>rfl
  | some s1=>exact KV g r m s1
structure RgOk (P : Program) (hi : Hint) (gl : Nat -> Option (List I)) (nt : Nat) (g : Rg) (it jx iB iC jb : Nat) (opsB opsC : Array Oper) (cR : Code) : Prop where
 oN : ∃ o,opsB[0]? = some o /\ o.op = .next (.tmp it) false /\ o.dst = some g.tn /\ o.guard = none
 qB : All2 (Gh P hi gl nt opsB) (List.range' 1 (opsB.size - 1)) g.qB
 nB : noD opsB (List.range' 1 (opsB.size - 1)) it
 oE : ∃ o,opsC[0]? = some o /\ o.op = .entry (.tmp it) /\ o.dst = some g.te /\ o.guard = none
 qC : All2 (Gh P hi gl nt opsC) (List.range' 1 (opsC.size - 1)) g.qC
 nC : noD opsC (List.range' 1 (opsC.size - 1)) it
 rs : RgsOk P hi gl nt it cR g.rs
 ln : hi.loc g.tn = true
 le : hi.loc g.te = true
 lb : hi.loc g.tb = false
 tn : g.tn ≠ it
 te : g.te ≠ it
 sn : g.tn < nt
 se : g.te < nt
theorem HG {n : Nat} (h : 0 < n) : List.range n = 0 :: List.range' 1 (n - 1):=by
 rw [List.range_eq_range']
 cases n with
 | zero=>omega
 | succ m=>rfl
theorem Inv.hand {w : World} {S : Nat -> Prop} {ρ β : Nat -> Nat} {s : St} {a : Act} (h : Inv hi nt ds w S ρ β s a) {n : Nat} (hn : hi.loc n = true) (hlt : n < nt) {v : V} {c : Value} (hv : RepX w S ρ β s.M.H v c) {E : Env} (hE : ∀ k v,BA E k = some v -> BA s.E k = some v) : Inv hi nt ds w S ρ β ⟨E,[(n,v)],s.M⟩ (a.put (some n) c):=by
 have hk : n < a.tmps.size:=by rw [h.sz]; exact hlt
 refine ⟨by simp [Act.put,h.sz],h.df,h.ok,fun k u hg=>?_,fun k u hg=>?_⟩
 ·obtain ⟨h1,h2,h3⟩:=h.env k u (hE k u hg)
  have hne : k ≠ n:=fun e=>by rw [e,hn] at h1; cases h1
  rw [BB hk,AaL hne]
  exact ⟨h1,h2,h3⟩
 ·rw [BB hk]
  have hg : BA [(n,v)] k = some u:=hg
  have e1 : BA [(n,v)] k = if n = k then some v else none:=by
   by_cases e : n = k
   ·subst e
    rw [AaN rfl]
    simp [BA]
   ·rw [AaL e]
    simp [BA,UA e,e]
  by_cases e : n = k
  ·rw [e1,AaN e] at hg
   have hg:=Option.some.inj hg
   subst hg
   rw [AaN e.symm]
   exact ⟨e ▸ hn,hv⟩
  ·rw [e1,AaL e] at hg
   cases hg
theorem tupX {w : World} {S : Nat -> Prop} {ρ β : Nat -> Nat} {H : Hp} {vs : List V} {cs : Array Value} (h : RepL w S ρ H vs cs.toList) : RepX w S ρ β H (.tu vs) (.tuple cs):=RepX.ofV (RepL.toTu h)
theorem Mt {b : Bool} {o : Option V} (h : isT b o = true) : o = some (.m (.b b)):=by
 unfold isT at h
 split at h
 ·rename_i c
  cases b <;> cases c <;> first | rfl | cases h
 ·cases h
theorem JU (l : List Nat) (E : Env) : ∀ k v,BA (Ar l E) k = some v -> BA E k = some v:=fun k v h=>FI l E k v h
theorem SR {ents : Array MapEntry} {J : List Nat} {seen : Array Nat} (hs : seen.toList = J.map fun j=>((ents[j]?).map (·.born)).getD 0) {e : MapEntry} (he : e ∈ (leftOf ents seen).toList) : ∃ j,ents[j]? = some e /\ j ∉ J:=by
 obtain ⟨h1,h2⟩:=mem_left he
 obtain ⟨j,hj⟩:=AbW.1 h1
 have hj' : ents[j]? = some e:=by simpa using hj
 refine ⟨j,hj',fun hm=>?_⟩
 have : e.born ∈ seen.toList:=by
  rw [hs]
  exact Abz.2 ⟨j,hm,by simp [hj']⟩
 have h3 : seen.contains e.born = true:=by simpa using this
 rw [h2] at h3
 cases h3
theorem PK {ents : Array MapEntry} {J : List Nat} {seen : Array Nat} {clock : Nat} (hbr : Brn ents clock) (hs : seen.toList = J.map fun j=>((ents[j]?).map (·.born)).getD 0) (hJ : ∀ j,j ∈ J -> j < ents.size) (h0 : (leftOf ents seen).size = 0) : ∀ j,j < ents.size -> j ∈ J:=fun j hj=>by
 have h1:=all_seen ents seen h0 ents[j] (by simp)
 have h2 : ents[j].born ∈ seen.toList:=by simpa using h1
 rw [hs] at h2
 obtain ⟨k,hk,e⟩:=Abz.1 h2
 have hkl:=hJ k hk
 have e2 : ents[k].born = ents[j].born:=by simpa [hkl] using e
 have:=born_inj hbr.2 (x:=ents[k]) (e:=ents[j]) (by simp) (by simp) e2
 have hnd : (ents.toList.map (·.born)).Nodup:=hbr.2
 have hkj : k = j:=by
  have g1 : (ents.toList.map (·.born))[k]? = some ents[j].born:=by simp [hkl,e2]
  have g2 : (ents.toList.map (·.born))[j]? = some ents[j].born:=by simp [hj]
  obtain ⟨l1,m1⟩:=AaI.1 g1
  obtain ⟨l2,m2⟩:=AaI.1 g2
  exact (List.getElem_inj hnd).1 (m1.trans m2.symm)
 exact hkj ▸ hk
def pk (es : List (I × V)) (J : List Nat) : List (I × V):=J.filterMap fun j=>es[j]?
theorem Um {α : Type} : ∀ (es : List α) (pre : List α),(List.range' pre.length es.length).filterMap (fun j=>(pre ++ es)[j]?) = es
 | [],pre=>by simp
 | x :: r,pre=>by
  rw [AbD,List.range'_succ,List.filterMap_cons]
  have h : (pre ++ x :: r)[pre.length]? = some x:=by simp
  rw [h]
  dsimp only
  have:=Um r (pre ++ [x])
  rw [AaX,AbG] at this
  rw [show pre.length + 1 = pre.length + [x].length from rfl]
  exact congrArg (x :: ·) this
theorem Qi {n : Nat} {J : List Nat} (hJ : J.Nodup) (hlt : ∀ j,j ∈ J -> j < n) : (J ++ (List.range n).filter fun j=>!J.contains j).Perm (List.range n):=by
 refine (List.perm_ext_iff_of_nodup ?_ List.nodup_range).2 fun j=>?_
 ·rw [List.nodup_append]
  refine ⟨hJ,List.nodup_range.filter _,fun a ha b hb e=>?_⟩
  subst e
  have:=(AbS.1 hb).2
  simp [ha] at this
 ·simp only [AbC,AbS,List.mem_range]
  constructor
  ·rintro (h | ⟨h,_⟩)
   ·exact hlt j h
   ·exact h
  ·intro h
   by_cases hm : j ∈ J
   ·exact .inl hm
   ·exact .inr ⟨h,by simp [hm]⟩
theorem PC {es : List (I × V)} {J : List Nat} (h : J.Perm (List.range es.length)) : (pk es J).Perm es:=by
 have h1 : (pk es J).Perm (pk es (List.range es.length)):=h.filterMap _
 have h2 : pk es (List.range es.length) = es:=by
  have:=Um es []
  rw [List.range_eq_range']
  exact this
 rw [h2] at h1
 exact h1
theorem Pv {g : Rg} {it jx iB iC jb : Nat} {opsB opsC : Array Oper} {cR : Code} (hR : RgOk P hi gl nt g it jx iB iC jb opsB opsC cR) (hcall : Cb P gl call) {es : List (I × V)} {ents : Array MapEntry} {clock bm i : Nat} {s0 : St} {Q : Exit -> Act -> World -> Prop}
  (hn : ents.size = es.length) (hbr : Brn ents clock) (hall : ∀ es',es'.Perm es -> ∃ s',(rgL call g es' s0).bind (rgE call g) = some s')
  {w0 : World} {S0 : Nat -> Prop} {ρ0 β0 : Nat -> Nat} {M0 : Mem} (hz : w0.heap.size <= i)
  (hQ : ∀ es' s' a' w' S' ρ' β',es'.Perm es -> (rgL call g es' s0).bind (rgE call g) = some s' -> Inv hi nt ds w' S' ρ' β' s' a' -> Stp w0 S0 ρ0 β0 M0 w' S' ρ' s'.M.H -> Bx w0 β0 M0.B β' s'.M.B -> GlOk gl w' S' -> Q (.exit jx) a' w') :
  ∀ (m : Nat) (J : List Nat) (seen : Array Nat) (c0 : Nat) (s : St) (a : Act) (w : World) (S : Nat -> Prop) (ρ β : Nat -> Nat),J.Nodup -> (∀ j,j ∈ J -> j < es.length) -> es.length - J.length < m ->
   (seen.toList = J.map fun j=>((ents[j]?).map (·.born)).getD 0) -> rgL call g (pk es J) s0 = some s -> Inv hi nt ds w S ρ β s a -> GlOk gl w S -> a.tmps.getD it undef = .pointer (some ⟨i,0,none⟩) ->
   w.heap[i]? = some (.mapIter (some bm) clock seen c0) -> clock <= c0 -> Beside i w S ρ β s.M -> w.heap[bm]? = some (.map ents clock) -> S bm ->
   (∀ (j : Nat) k x,es[j]? = some (k,x) -> ∃ ent,ents[j]? = some ent /\ RepI w S k ent.key /\ RepV w S ρ s.M.H x ent.val) ->
   Stp w0 S0 ρ0 β0 M0 w S ρ s.M.H -> Bx w0 β0 M0.B β s.M.B ->
   Code.roundsIn (FW rd) 0 P (.seq (.region iB opsB false) (.seq (.cond (.tmp g.tb) .skip (.exit jx)) (.block jb (.seq (.region iC opsC false) cR)))) Q m a w:=by
 intro m
 induction m with
 | zero=>intro J seen c0 s a w S ρ β _ _ h; omega
 | succ m ih =>
  intro J seen c0 s a w S ρ β hJ hJl hm hseen hs hI hG hit hih hc0 hB hbm hSb hrep hst hbx
  obtain ⟨oN,ho1,ho2,ho3,ho4⟩:=hR.oN
  obtain ⟨oE,he1,he2,he3,he4⟩:=hR.oE
  have hsB : 0 < opsB.size:=(Abk.1 ho1).1
  have hsC : 0 < opsC.size:=(Abk.1 he1).1
  have hnd : ∀ c,oN.op ≠ .defer c:=fun c e=>by rw [ho2] at e; cases e
  have hndE : ∀ c,oE.op ≠ .defer c:=fun c e=>by rw [he2] at e; cases e
  have hold : ∀ x ∈ ents.toList,x.born < clock:=hbr.1
  rw [roundsIn_succ]
  refine wpIn_seq (wpIn_region ?_)
  rw [HG hsB]
  have hw : Region.wanted oN (yielded opsB a.tmps) = true:=by unfold Region.wanted; rw [ho4]
  simp only [wpOpsIn,ho1,hw,if_true]
  have hev : a.eval (.tmp it) = .pointer (some ⟨i,0,none⟩):=hit
  have hfull : ∀ R : List Nat,(J ++ R).Perm (List.range es.length) -> ∃ s',(rgL call g (pk es R) s).bind (rgE call g) = some s' /\ (rgL call g (pk es (J ++ R)) s0).bind (rgE call g) = some s':=fun R hp=>by
   obtain ⟨s',h⟩:=hall _ (PC hp)
   refine ⟨s',?_,h⟩
   have e : pk es (J ++ R) = pk es J ++ pk es R:=by unfold pk; rw [List.filterMap_append]
   rw [e,KV,hs] at h
   exact h
  rcases run_next_at (P:=P) w oN.type i bm clock c0 seen ents clock hih hbm hold hc0 with ⟨h0,hrun⟩ | ⟨e,he,w1,hw1,hrun⟩
  ·-- nothing is left
   have hcov:=PK hbr hseen (fun j hj=>by rw [hn]; exact hJl j hj) h0
   have hp : (J ++ []).Perm (List.range es.length):=by
    rw [AbI]
    refine (List.perm_ext_iff_of_nodup hJ List.nodup_range).2 fun j=>?_
    rw [List.mem_range]
    exact ⟨hJl j,fun h=>hcov j (by rw [hn]; exact h)⟩
   obtain ⟨s',h1,h2⟩:=hfull [] hp
   have h1 : rgE call g s = some s':=h1
   unfold rgE at h1
   simp only [AaF,Ah,AaG] at h1
   obtain ⟨s1,hq,ht,rfl⟩:=h1
   refine Jf (c:=.tuple #[.bool false]) (w':=w) hnd ?_ ?_
   ·simp [execOp,ho2,hev,hrun,Result.andThen]
   ·rw [ho3]
    have hI1 : Inv hi nt ds w S ρ β ⟨Ar g.dr s.E,[(g.tn,.tu [.m (.b false)])],s.M⟩ (a.put (some g.tn) (.tuple #[.bool false])):=hI.hand hR.ln hR.sn (tupX (RepL.cons (.m (.b false)) RepL.nil)) (JU _ _)
    refine Fd hcall _ _ hR.qB hR.nB _ s1 _ w S ρ β hq hI1 hG fun a1 w1 S1 ρ1 β1 k1 k2 k3 _=>?_
    have htb:=(k1.env _ _ (Mt ht)).2.1
    refine wpIn_seq (wpIn_cond_false (BH (RepX.toV rfl htb)) (wpIn_exit ?_))
    exact hQ _ _ a1 w1 S1 ρ1 β1 (PC hp) h2 k1.clear (hst.trans hbx k2) (hbx.trans hst.size k3) (hG.step k2)
  ·-- an entry has come
   obtain ⟨j,hj,hjJ⟩:=SR hseen he
   have hjl : j < es.length:=by rw [<- hn]; exact (Abk.1 hj).1
   obtain ⟨⟨k,x⟩,hkx⟩ : ∃ p,es[j]? = some p:=⟨es[j],AaK hjl⟩
   obtain ⟨ent,hent,hrk,hrx⟩:=hrep j k x hkx
   rw [hj] at hent
   cases hent
   have hJ' : (J ++ [j]).Nodup:=by
    rw [List.nodup_append]
    exact ⟨hJ,by simp,fun a ha b hb e=>by simp at hb; subst hb; exact hjJ (e ▸ ha)⟩
   have hJl' : ∀ q,q ∈ J ++ [j] -> q < es.length:=fun q hq=>by
    rcases AbC.1 hq with hq | hq
    ·exact hJl q hq
    ·simp at hq; subst hq; exact hjl
   obtain ⟨s',h1,_⟩:=hfull (j :: (List.range es.length).filter fun q=>!(J ++ [j]).contains q) (by
    have:=Qi hJ' hJl'
    rw [AbG] at this
    exact this)
   have epk : ∀ R,pk es (j :: R) = (k,x) :: pk es R:=fun R=>by unfold pk; rw [List.filterMap_cons,hkx]
   rw [epk] at h1
   simp only [rgL,AaF] at h1
   obtain ⟨s2,⟨s3,hr1,hr2⟩,hr3⟩:=h1
   have hs3 : rgL call g (pk es (J ++ [j])) s0 = some s3:=by
    have e : pk es (J ++ [j]) = pk es J ++ [(k,x)]:=by unfold pk; rw [List.filterMap_append,List.filterMap_cons,hkx]; rfl
    rw [e,KV,hs]
    show (rg1 call g s (k,x)).bind (fun s'=>some s') = _
    rw [hr1]
    rfl
   unfold rg1 at hr1
   simp only [AaF,Ah] at hr1
   obtain ⟨t1,hq,ht,t2,hc,hrs⟩:=hr1
   have hgw : Gw w w1 none:=by
    rcases hw1 with rfl | rfl
    ·exact ⟨⟨rfl,rfl,rfl,AaQ _,fun _ _ _=>rfl⟩,fun _=>AaQ _⟩
    ·exact ⟨⟨rfl,rfl,rfl,AaQ _,fun _ _ _=>rfl⟩,fun _=>Nat.le_succ _⟩
   have hh1 : w1.heap = w.heap:=by rcases hw1 with rfl | rfl <;> rfl
   obtain ⟨hok1,hst1⟩:=hI.ok.grow hgw (fun _ h=>h) (fun b h=>.inl h) (fun b h=>by rw [hh1]; exact hI.ok.lt b h)
   generalize hob : (Obj.mapIter (some bm) clock (seen.push e.born) clock) = ob at hrun
   have hw2 : setBlock w1 i ob = w1.putObj i ob:=rfl
   rw [hw2] at hrun
   have hok2:=hok1.off (o:=ob) hB.ns hB.row hB.box
   have hto : RowsTo w1 S ρ s.M.H (w1.putObj i ob) S ρ s.M.H:=RowsTo.off hB.ns hB.row
   have hst2 : Stp w0 S0 ρ0 β0 M0 (w1.putObj i ob) S ρ s.M.H:=(hst.trans hbx hst1).off hz hB.ns hB.row
   have hil : i < w1.heap.size:=by rw [hh1]; exact (Abk.1 hih).1
   have hv2 : ∀ v c,RepX w S ρ β s.M.H v c -> RepX (w1.putObj i ob) S ρ β s.M.H v c:=fun v c h=>by
    cases v with
    | fa d off=>exact h
    | _=>exact RepX.ofV ((hst1.vals _ _ (RepX.toV rfl h)).mono hto)
   have hI2 : Inv hi nt ds (w1.putObj i ob) S ρ β s a:=⟨hI.sz,hI.df,hok2,fun n v hv=>let ⟨q1,q2,q3⟩:=hI.env n v hv; ⟨q1,hv2 _ _ q2,q3⟩,fun n v hv=>let ⟨q1,q2⟩:=hI.loc n v hv; ⟨q1,hv2 _ _ q2⟩⟩
   have hheap : ∀ b,b ≠ i -> (w1.putObj i ob).heap[b]? = w.heap[b]?:=fun b hb=>by rw [World.putObj_heap_other hb,hh1]
   have hni : ∀ b,S b -> b ≠ i:=fun b hb e=>hB.ns (e ▸ hb)
   have hG2 : GlOk gl (w1.putObj i ob) S:=fun q cs hq=>(hG q cs hq).mono (fun b hb=>hheap b (hni b hb)) fun _ h=>h
   have hbm2 : (w1.putObj i ob).heap[bm]? = some (.map ents clock):=by rw [hheap _ (hni _ hSb)]; exact hbm
   have hi2 : (w1.putObj i ob).heap[i]? = some ob:=World.putObj_heap_same hil
   have hB2 : Beside i (w1.putObj i ob) S ρ β s.M:=⟨hB.ns,hB.row,hB.box⟩
   have hrk2 : RepI (w1.putObj i ob) S k e.key:=(RepX.toV rfl (hv2 (.m k) _ (RepX.ofV (.m hrk)))).imm
   have hrep2 : ∀ (q : Nat) k x,es[q]? = some (k,x) -> ∃ ent,ents[q]? = some ent /\ RepI (w1.putObj i ob) S k ent.key /\ RepV (w1.putObj i ob) S ρ s.M.H x ent.val:=fun q k x hq=>by
    obtain ⟨en,g1,g2,g3⟩:=hrep q k x hq
    exact ⟨en,g1,(RepX.toV rfl (hv2 (.m k) _ (RepX.ofV (.m g2)))).imm,(hst1.vals _ _ g3).mono hto⟩
   obtain ⟨en,g1,g2,hrx2⟩:=hrep2 j k x hkx
   rw [hj] at g1
   cases g1
   refine Jf (c:=.tuple #[.bool true,e.key,e.val]) (w':=w1.putObj i ob) hnd ?_ ?_
   ·simp [execOp,ho2,hev,hrun,Result.andThen]
   ·rw [ho3]
    have hI3 : Inv hi nt ds (w1.putObj i ob) S ρ β ⟨Ar g.dr s.E,[(g.tn,.tu [.m (.b true),.m k,x])],s.M⟩ (a.put (some g.tn) (.tuple #[.bool true,e.key,e.val])):=hI2.hand hR.ln hR.sn (tupX (RepL.cons (.m (.b true)) (RepL.cons (.m hrk2) (RepL.cons hrx2 RepL.nil)))) (JU _ _)
    have hput : (a.put (some g.tn) (.tuple #[.bool true,e.key,e.val])).tmps.getD it undef = .pointer (some ⟨i,0,none⟩):=by
     rw [BB (by rw [hI.sz]; exact hR.sn),AaL (Ne.symm hR.tn)]
     exact hit
    refine Fd hcall _ _ hR.qB hR.nB _ t1 _ _ S ρ β hq hI3 hG2 fun a1 w3 S3 ρ3 β3 k1 k2 k3 k4=>?_
    have htb:=(k1.env _ _ (Mt ht)).2.1
    have hil2 : i < (w1.putObj i ob).heap.size:=by simpa using hil
    obtain ⟨hB3,hi3⟩:=hB2.step hil2 k2 k3
    have hG3:=hG2.step k2
    have hit3:=k4.trans hput
    rw [hi2] at hi3
    have hbm3 : w3.heap[bm]? = some (.map ents clock):=(k2.heap bm hSb).trans hbm2
    have hrk3:=k2.imm hrk2
    have hrx3:=k2.vals _ _ hrx2
    have hrunE:=run_entry_at (P:=P) w3 i bm clock seen ents clock e (by rw [hi3,<- hob]) hbm3 (mem_left he).1 hbr.2
    refine wpIn_seq (wpIn_cond_true (BH (RepX.toV rfl htb)) (wpIn_skip ?_))
    refine wpIn_block (wpIn_seq (wpIn_region ?_))
    rw [HG hsC]
    have hw : Region.wanted oE (yielded opsC a1.tmps) = true:=by unfold Region.wanted; rw [he4]
    simp only [wpOpsIn,he1,hw,if_true]
    have hev1 : a1.eval (.tmp it) = .pointer (some ⟨i,0,none⟩):=hit3
    refine Jf (c:=.tuple #[e.key,e.val]) (w':=w3) hndE ?_ ?_
    ·simp [execOp,he2,hev1,hrunE,Result.andThen]
    ·rw [he3]
     have hI4 : Inv hi nt ds w3 S3 ρ3 β3 ⟨t1.E,[(g.te,.tu [.m k,x])],t1.M⟩ (a1.put (some g.te) (.tuple #[e.key,e.val])):=k1.hand hR.le hR.se (tupX (RepL.cons (.m hrk3) (RepL.cons hrx3 RepL.nil))) fun _ _ h=>h
     have hput4 : (a1.put (some g.te) (.tuple #[e.key,e.val])).tmps.getD it undef = .pointer (some ⟨i,0,none⟩):=by
      rw [BB (by rw [k1.sz]; exact hR.se),AaL (Ne.symm hR.te)]
      exact hit3
     refine Fd hcall _ _ hR.qC hR.nC _ t2 _ _ S3 ρ3 β3 hc hI4 hG3 fun a4 w4 S4 ρ4 β4 l1 l2 l3 l4=>?_
     have hI5 : Inv hi nt ds w4 S4 ρ4 β4 ⟨t2.E,[],t2.M⟩ a4:=l1.clear
     refine VI hcall hR.rs hrs hI5 (hG3.step l2) fun a5 w5 S5 ρ5 β5 n1 n2 n3 n4=>?_
     have hl3 : i < w3.heap.size:=AbY hil2 k2.size
     obtain ⟨hB4,hi4⟩:=hB3.step hl3 l2 l3
     have hl4 : i < w4.heap.size:=AbY hl3 l2.size
     obtain ⟨hB5,hi5⟩:=hB4.step hl4 n2 n3
     have hSb3:=k2.stab _ hSb
     have hSb4:=l2.stab _ hSb3
     have hlen : (J ++ [j]).length = J.length + 1:=by simp
     have hJle : (J ++ [j]).length <= es.length:=by
      have:=hJ'.length_le_of_subset (l₂:=List.range es.length) fun q hq=>List.mem_range.2 (hJl' q hq)
      simpa using this
     refine ih (J ++ [j]) (seen.push e.born) clock s3 a5 w5 S5 ρ5 β5 hJ' hJl' (by omega) ?_ hs3 n1 ((hG3.step l2).step n2) (n4.trans (l4.trans hput4)) ?_ (AaQ _) hB5 ?_ (n2.stab _ hSb4) (fun q k x hq=>?_) ?_ ?_
     ·rw [Array.toList_push,hseen,List.map_append]
      congr 1
      simp [hj]
     ·rw [hi5,hi4,hi3,<- hob]
     ·rw [n2.heap _ hSb4,l2.heap _ hSb3,hbm3]
     ·obtain ⟨en,q1,q2,q3⟩:=hrep2 q k x hq
      exact ⟨en,q1,n2.imm (l2.imm (k2.imm q2)),n2.vals _ _ (l2.vals _ _ (k2.vals _ _ q3))⟩
     ·exact ((hst2.trans hbx k2).trans (hbx.trans hst2.size k3) l2).trans ((hbx.trans hst2.size k3).trans (hst2.trans hbx k2).size l3) n2
     ·exact ((hbx.trans hst2.size k3).trans (hst2.trans hbx k2).size l3).trans ((hst2.trans hbx k2).trans (hbx.trans hst2.size k3) l2).size n3
end
end Go.Mx
namespace Go.Mx
open Go.Proofs Go.ChangeMaps
noncomputable def evX (call : Bp) (c : C) (s : St) : Option (Ex × St):=@dite _ (∃ r,∃ n,evC call n c s = some r) (Classical.propDecidable _) (fun h=>some (Classical.choose h)) fun _=>none
theorem MG {call : Bp} {c : C} {s : St} {n : Nat} {r : Ex × St} (h : evC call n c s = some r) : evX call c s = some r:=by
 have hx : ∃ r,∃ n,evC call n c s = some r:=⟨r,n,h⟩
 unfold evX
 rw [dif_pos hx]
 obtain ⟨m,hm⟩:=Classical.choose_spec hx
 have l : LeC call call:=fun _ _ _ _ h=>h
 have h1:=Cj l (AbJ n m) h
 have h2:=Cj l (AbR n m) hm
 rw [h1] at h2
 exact h2.symm
theorem ID {call : Bp} {c : C} {s : St} {r : Ex × St} (h : evX call c s = some r) : ∃ n,evC call n c s = some r:=by
 unfold evX at h
 split at h
 ·rename_i hx
  have:=Classical.choose_spec hx
  rw [Option.some.inj h] at this
  exact this
 ·cases h
theorem Gm {c d : Bp} (h : LeC c d) {k : C} {s : St} {r : Ex × St} (he : evX c k s = some r) : evX d k s = some r:=by
 obtain ⟨n,hn⟩:=ID he
 exact MG (Cj h (AaQ n) hn)
structure RF where
 pre : List C
 g : Rg
 mT : C
 ms : Nat
 it : Nat
 rs : List Res
def sqC : List C -> C
 | []=>.skip
 | c :: r=>.seq c (sqC r)
def rfF (x : RF) (s : St) : Option V:=(DM s x.rs).bind fun v=>DK s.M.H v
def rfM (x : RF) (s : St) : Option (List (I × V) × St):=match BA s.E x.it,BA s.E x.ms with
 | none,some (.mp r)=>(nth s.M.H r).bind fun row=>match row with
  | .mp es _=>(AO [r] s.M.H).bind fun H2=>some (es,⟨s.E,[],⟨s.M.B,H2⟩⟩)
  | _=>none
 | _,_=>none
noncomputable def rfO (call : Bp) (x : RF) (s : St) (es : List (I × V)) : Option V:=((rgL call x.g es s).bind (rgE call x.g)).bind fun s2=>(evX call x.mT s2).bind fun q=>match q.1 with
 | .ret=>rfF x q.2
 | _=>none
noncomputable def rfV (call : Bp) (x : RF) (is : List I) : Option V:=(evX call (sqC x.pre) ⟨Cw 0 (is.map .m),[],⟨[],[]⟩⟩).bind fun q=>match q.1 with
 | .ret=>rfF x q.2
 | .nm=>(rfM x q.2).bind fun p=>(rfO call x p.2 p.1).bind fun v=>@ite _ (∀ es' : List (I × V),es'.Perm p.1 -> rfO call x p.2 es' = some v) (Classical.propDecidable _) (some v) none
 | .ex _=>none
noncomputable def rfX (x : RF) (np : Nat) (call : Bp) (vs : List V) (H : Hp) : Option (V × Hp):=(Cc vs).bind fun is=>gd (Nat.beq is.length np) ((rfV call x is).bind fun v=>some (v,H))
theorem LX {c d : Bp} (h : LeC c d) {g : Rg} {s s' : St} {p : I × V} (he : rg1 c g s p = some s') : rg1 d g s p = some s':=by
 unfold rg1 at *
 simp only [AaF,Ah] at *
 obtain ⟨s1,h1,h2,s2,h3,h4⟩:=he
 have key : ∀ (l : List (List Op)) (s s' : St),Ut c l s = some s' -> Ut d l s = some s':=by
  intro l
  induction l with
  | nil=>exact fun _ _ h=>h
  | cons q r ih =>
   intro s s' hh
   simp only [Ut,AaF] at *
   obtain ⟨t,g1,g2⟩:=hh
   exact ⟨t,Bs h g1,ih _ _ g2⟩
 exact ⟨s1,Bs h h1,h2,s2,Bs h h3,key _ _ _ h4⟩
theorem Gk {c d : Bp} (h : LeC c d) {g : Rg} : ∀ {l : List (I × V)} {s s' : St},rgL c g l s = some s' -> rgL d g l s = some s'
 | [],_,_,he=>he
 | p :: r,s,s',he=>by
  simp only [rgL,AaF] at *
  obtain ⟨s1,h1,h2⟩:=he
  exact ⟨s1,LX h h1,Gk h h2⟩
theorem LW {c d : Bp} (h : LeC c d) {g : Rg} {s s' : St} (he : rgE c g s = some s') : rgE d g s = some s':=by
 unfold rgE at *
 simp only [AaF,Ah] at *
 obtain ⟨s1,h1,h2⟩:=he
 exact ⟨s1,Bs h h1,h2⟩
theorem EV {c d : Bp} (h : LeC c d) {x : RF} {s : St} {es : List (I × V)} {v : V} (he : rfO c x s es = some v) : rfO d x s es = some v:=by
 unfold rfO at *
 simp only [AaF] at *
 obtain ⟨s2,⟨s1,h1,h2⟩,q,h3,h4⟩:=he
 exact ⟨s2,⟨s1,Gk h h1,LW h h2⟩,q,Gm h h3,h4⟩
theorem SC {x : RF} {np : Nat} {c d : Bp} (h : LeC c d) {vs : List V} {H : Hp} {r : V × Hp} (he : rfX x np c vs H = some r) : rfX x np d vs H = some r:=by
 unfold rfX rfV at *
 simp only [AaF,Ah] at *
 obtain ⟨is,h1,h2,v,⟨⟨e,s⟩,h3,h4⟩,h5⟩:=he
 refine ⟨is,h1,h2,v,⟨(e,s),Gm h h3,?_⟩,h5⟩
 cases e with
 | ret=>exact h4
 | ex id=>cases h4
 | nm =>
  simp only [AaF] at h4 ⊢
  obtain ⟨p,k1,v',k2,k3⟩:=h4
  refine ⟨p,k1,v',EV h k2,?_⟩
  split at k3
  ·rename_i hp
   rw [AaN fun es' h'=>EV h (hp es' h')]
   exact k3
  ·cases k3
def seqC : List Code -> Code -> Code
 | [],r=>r
 | c :: l,r=>.seq c (seqC l r)
section
variable {P : Program} {hi : Hint} {gl : Nat -> Option (List I)} {nt : Nat} {call : Bp} {sh : Nat -> Bool} {dr : Nat -> List Nat}
theorem PB (hcall : Cb P gl call) (hq : AV sh call) (hm : P.follows .mixedOrders = true) (hrel : ∀ hi dr a c,cmpC P hi gl sh dr a = some c -> RelC hi dr a c) (n : Nat) (z : Nat) {rest : Code} {Q : Exit -> Act -> World -> Prop} : ∀ (l : List (Code × C)),(∀ q,q ∈ l -> cmpC P hi gl sh dr q.1 = some q.2 /\ wfC nt q.2 = true) ->
  ∀ (s : St) (e : Ex) (s' : St) (a : Act) (w : World) (S : Nat -> Prop) (ρ β : Nat -> Nat) (ds : List Deferred),evC call n (sqC (l.map (·.2))) s = some (e,s') -> Inv hi nt ds w S ρ β s a -> GlOk gl w S -> z <= w.heap.size -> Mks z w S ρ β s.M ds ->
   (∀ id,e ≠ .ex id) -> (∀ a' w' S' ρ' β' ds',Inv hi nt ds' w' S' ρ' β' s' a' -> Mks z w' S' ρ' β' s'.M ds' -> Stp w S ρ β s.M w' S' ρ' s'.M.H -> Bx w β s.M.B β' s'.M.B -> GlOk gl w' S' -> (e = .nm -> rest.wpIn (FW none) 0 P Q a' w') /\ (e = .ret -> Q .ret a' w')) ->
   (seqC (l.map (·.1)) rest).wpIn (FW none) 0 P Q a w
 | [],_,s,e,s',a,w,S,ρ,β,ds,he,hI,hG,hz,hM,_,hK=>by
  have he : some (Ex.nm,s) = some (e,s'):=he
  simp only [AaG,AaH] at he
  obtain ⟨rfl,rfl⟩:=he
  exact (hK a w S ρ β ds hI hM (Stp.refl _ _ _ _ _) Bx.refl hG).1 rfl
 | (c,k) :: l,hl,s,e,s',a,w,S,ρ,β,ds,he,hI,hG,hz,hM,hne,hK=>by
  have he : (evC call n k s).bind (fun p=>match p.1 with
   | .nm=>evC call n (sqC (l.map (·.2))) p.2
   | e=>some (e,p.2)) = some (e,s'):=he
  simp only [AaF] at he
  obtain ⟨⟨e1,s1⟩,he1,he2⟩:=he
  obtain ⟨c1,c2⟩:=hl (c,k) (by simp)
  show (Code.seq c (seqC (l.map (·.1)) rest)).wpIn (FW none) 0 P Q a w
  refine wpIn_seq (Lj (rd:=none) hcall hq hm hrel n z c k c1 c2 s e1 s1 a w S ρ β ds _ he1 hI hG hz hM (fun l h=>by cases h) fun a1 w1 S1 ρ1 β1 ds1 h1 hm1 h2 h3=>?_)
  cases e1 with
  | nm =>
   exact PB hcall hq hm hrel n z l (fun q hq=>hl q (by simp [hq])) s1 e s' a1 w1 S1 ρ1 β1 ds1 he2 h1 (hG.step h2) (AbF hz h2.size) hm1 hne fun a2 w2 S2 ρ2 β2 ds2 g1 g2 g3 g4 g5=>hK a2 w2 S2 ρ2 β2 ds2 g1 g2 (h2.trans h3 g3) (h3.trans h2.size g4) g5
  | ret =>
   simp only [AaG,AaH] at he2
   obtain ⟨rfl,rfl⟩:=he2
   exact (hK a1 w1 S1 ρ1 β1 ds1 h1 hm1 h2 h3 (hG.step h2)).2 rfl
  | ex id =>
   simp only [AaG,AaH] at he2
   exact absurd he2.1.symm (hne id)
structure RfOk (P : Program) (hi : Hint) (gl : Nat -> Option (List I)) (sh : Nat -> Bool) (dr : Nat -> List Nat) (x : RF) (func : Func) (pre : List (Code × C)) (cT : Code) (iA ma jx iB iC jb : Nat) (opsA opsB opsC : Array Oper) (cR : Code) (ty kt et : TypeId) : Prop where
 body : func.body = some (seqC (pre.map (·.1)) (.seq (.seq (.region iA opsA false) (.block jx (.loop (.seq (.region iB opsB false) (.seq (.cond (.tmp x.g.tb) .skip (.exit jx)) (.block jb (.seq (.region iC opsC false) cR))))))) cT))
 preM : pre.map (·.2) = x.pre
 preOk : ∀ q,q ∈ pre -> cmpC P hi gl sh dr q.1 = some q.2 /\ wfC func.ntmps q.2 = true
 opA : ∃ oA oR : Oper,opsA = #[oA,oR] /\ oA.op = .move (.tmp x.ms) /\ oA.dst = some ma /\ oA.guard = none /\ oR.op = .range ty (.tmp ma) /\ oR.dst = some x.it /\ oR.guard = none
 lma : hi.loc ma = true
 sma : ma < func.ntmps
 lit : hi.loc x.it = false
 sit : x.it < func.ntmps
 hty : P.underlying ty = some (.map kt et)
 rg : RgOk P hi gl func.ntmps x.g x.it jx iB iC jb opsB opsC cR
 mT : cmpC P hi gl sh dr cT = some x.mT /\ wfC func.ntmps x.mT = true
 res : Ai (Wn P hi) func.results.toList = some x.rs
 low : PT hi (func.params.size + func.nfree) = true
 np : func.params.size + func.nfree <= func.ntmps
theorem Inv.other {w : World} {S : Nat -> Prop} {ρ β : Nat -> Nat} {ds : List Deferred} {s : St} {a : Act} (h : Inv hi nt ds w S ρ β s a) {n : Nat} (hlt : n < nt) (hE : BA s.E n = none) (hn : hi.loc n = false) (c : Value) : Inv hi nt ds w S ρ β s (a.put (some n) c):=by
 have hk : n < a.tmps.size:=by rw [h.sz]; exact hlt
 refine ⟨by simp [Act.put,h.sz],h.df,h.ok,fun k u hg=>?_,fun k u hg=>?_⟩
 ·obtain ⟨h1,h2,h3⟩:=h.env k u hg
  have hne : k ≠ n:=fun e=>by rw [e,hE] at hg; cases hg
  rw [BB hk,AaL hne]
  exact ⟨h1,h2,h3⟩
 ·obtain ⟨h1,h2⟩:=h.loc k u hg
  have hne : k ≠ n:=fun e=>by rw [e,hn] at h1; cases h1
  rw [BB hk,AaL hne]
  exact ⟨h1,h2⟩
theorem Inv.step2 {w w' : World} {S S' : Nat -> Prop} {ρ ρ' β : Nat -> Nat} {ds : List Deferred} {s : St} {a : Act} {M' : Mem} (h : Inv hi nt ds w S ρ β s a) (hok : Ok w' S' ρ' β M') (k : Stp w S ρ β s.M w' S' ρ' M'.H) : Inv hi nt ds w' S' ρ' β ⟨s.E,s.L,M'⟩ a :=
 ⟨h.sz,h.df,hok,fun n v hv=>let ⟨h1,h2,h3⟩:=h.env n v hv; ⟨h1,h2.step k fun _ _ _=>rfl,h3⟩,fun n v hv=>let ⟨h1,h2⟩:=h.loc n v hv; ⟨h1,h2.step k fun _ _ _=>rfl⟩⟩
theorem SB {x : RF} {func : Func} {f : Nat} {pre : List (Code × C)} {cT : Code} {iA ma jx iB iC jb : Nat} {opsA opsB opsC : Array Oper} {cR : Code} {ty kt et : TypeId} (h : RfOk P hi gl sh dr x func pre cT iA ma jx iB iC jb opsA opsB opsC cR ty kt et) (hf : P.funcs[f]? = some func)
  (hcall : Cb P gl call) (hq : AV sh call) (hm : P.follows .mixedOrders = true) (hrel : ∀ hi dr a c,cmpC P hi gl sh dr a = some c -> RelC hi dr a c)
  {is : List I} {v : V} (he : rfV call x is = some v) (hlen : is.length = func.params.size + func.nfree) {args : Array Value} {w : World} {S : Nat -> Prop} (hok : Ok w S id id ⟨[],[]⟩) (hG : GlOk gl w S) (hv : All2 (RepX w S id id []) (is.map .m) args.toList) :
  Calls P f args w fun e w'=>∃ c S1 ρ1 p2,e = .returned c /\ Ok w' S1 ρ1 id ⟨[],p2⟩ /\ Stp w S id id ⟨[],[]⟩ w' S1 ρ1 p2 /\ RepV w' (Sof S1 ρ1 p2 fun _=>True) ρ1 p2 v c:=by
 have hsz : args.size = func.params.size + func.nfree:=by have:=All2.length hv; simp at this; omega
 have hna : (is.map V.m).all AE = true:=by rw [List.all_map,AaZ]; exact fun _ _=>rfl
 have hI : Inv hi func.ntmps [] w S id id ⟨Cw 0 (is.map .m),[],⟨[],[]⟩⟩ { tmps:=args ++ Array.replicate (func.ntmps - args.size) undef,defers:=[] }:=by
  refine ⟨by have:=h.np; simp; omega,rfl,hok,fun k y hg=>?_,fun k y hg=>by simp [BA] at hg⟩
  obtain ⟨_,hx⟩:=FH _ 0 k y hg
  simp only [Nat.sub_zero] at hx
  obtain ⟨c,hc,hr⟩:=All2.get hv k y hx
  have hk : k < is.length:=by have:=(AaI.1 hx).1; simpa using this
  have hna':=Qa hna hx
  refine ⟨Is h.low k (by omega),?_,fun d off e=>absurd e (Mj hna' d off)⟩
  have hk2 : k < args.size:=by omega
  have : (args ++ Array.replicate (func.ntmps - args.size) undef).getD k undef = c:=by
   have h1 : args[k]? = some c:=by simpa using hc
   simp [Array.getElem?_append,hk2,h1]
   simpa [hk2] using h1
  rw [this]
  exact RepX.ofV (RepX.toV hna' hr)
 have fin : ∀ {a' : Act} {w' : World} {S' : Nat -> Prop} {ρ' β' : Nat -> Nat} {ds' : List Deferred} {s' : St},rfF x s' = some v -> Inv hi func.ntmps ds' w' S' ρ' β' s' a' -> Mks w.heap.size w' S' ρ' β' s'.M ds' -> Stp w S id id ⟨[],[]⟩ w' S' ρ' s'.M.H ->
   LeavesInM Fence.wide 0 P func a'.tmps (fun e w'=>∃ c S1 ρ1 p2,e = .returned c /\ Ok w' S1 ρ1 id ⟨[],p2⟩ /\ Stp w S id id ⟨[],[]⟩ w' S1 ρ1 p2 /\ RepV w' (Sof S1 ρ1 p2 fun _=>True) ρ1 p2 v c) a'.defers .returning w':=fun {a' w' S' ρ' β' ds' s'} hx h1 hmk h2=>by
  unfold rfF at hx
  simp only [AaF] at hx
  obtain ⟨u,hu,hvu⟩:=hx
  obtain ⟨Ds,hds,hnd,hmk⟩:=hmk
  rw [h1.df,hds]
  refine FF Ds w' hnd hmk h1 h2 fun w2 h1 h2=>?_
  obtain ⟨c,hrun,hrep⟩:=GD h1 h.res hu
  obtain ⟨k1,k2⟩:=Ok.back hok (B':=s'.M.B) (H':=s'.M.H) h1.ok h2
  exact ⟨c,hrun,c,S',ρ',_,rfl,k1,k2,Jg k1 hvu hrep⟩
 unfold rfV at he
 simp only [AaF] at he
 obtain ⟨⟨e,s⟩,hev,he⟩:=he
 obtain ⟨n,hev⟩:=ID hev
 rw [<- h.preM] at hev
 refine (callsIn_wide (n:=0)).1 (callsIn_of_wp_marks hf h.body AbL (PB hcall hq hm hrel n w.heap.size pre h.preOk _ e s _ w S id id [] hev hI hG (AaQ _) ⟨[],rfl,List.nodup_nil,fun D hD=>by simp at hD⟩ (fun id' e'=>by subst e'; cases he) fun a1 w1 S1 ρ1 β1 ds1 h1 hmk h2 h3 hG1=>⟨fun e1=>?_,fun e1=>?_⟩) rfl)
 case refine_2 =>
  subst e1
  exact fin he h1 hmk h2
 subst e1
 simp only [AaF] at he
 obtain ⟨⟨es,s1⟩,hM,v',hO,he⟩:=he
 split at he
 case isFalse=>cases he
 rename_i hperm
 cases he
 unfold rfM at hM
 split at hM
 case h_2=>cases hM
 rename_i r hno hms
 simp only [AaF,AK] at hM
 obtain ⟨row,hrow,hM⟩:=hM
 split at hM
 case h_2=>cases hM
 rename_i es' fz
 simp only [AaF,AaG,AaH] at hM
 obtain ⟨H2,hfz,rfl,rfl⟩:=hM
 obtain ⟨f1,f2,f3,f4⟩:=Eg [r] h1.ok hfz
 generalize hS2 : Sof S1 ρ1 s.M.H (· ∈ [r]) = S2 at f1 f2
 have hrl : r < s.M.H.length:=(AaI.1 hrow).1
 have hS2r : S2 (ρ1 r):=by rw [<- hS2]; exact .inr ⟨r,by simp,hrl,rfl⟩
 obtain ⟨_,_,ents,clock,hh,⟨hsize,hbr⟩,hrep⟩:=h1.ok.rows r _ hrow
 have hI2:=(h1.step2 (M':=⟨s.M.B,H2⟩) f1 f2).clear
 have hrep2 : ∀ (j : Nat) k y,es'[j]? = some (k,y) -> ∃ ent,ents[j]? = some ent /\ RepI w1 S2 k ent.key /\ RepV w1 S2 ρ1 H2 y ent.val:=fun j k y hj=>by
  obtain ⟨en,g1,g2,g3⟩:=hrep j k y hj
  exact ⟨en,g1,f2.imm g2,f2.vals _ _ g3⟩
 obtain ⟨oA,oR,hA,a1',a2',a3',a4',a5',a6'⟩:=h.opA
 have hbm : a1.tmps.getD x.ms undef = .map (some (ρ1 r)):=by
  have:=(h1.env _ _ hms).2.1
  have hr : RepV w1 S1 ρ1 s.M.H (.mp r) (a1.tmps.getD x.ms undef):=RepX.toV rfl this
  generalize a1.tmps.getD x.ms undef = c at hr ⊢
  cases hr
  rfl
 refine wpIn_seq (wpIn_seq (wpIn_region ?_))
 subst hA
 have hwA : ∀ a : Act,Region.wanted oA (yielded #[oA,oR] a.tmps) = true:=fun a=>by unfold Region.wanted; rw [a3']
 have hwR : ∀ a : Act,Region.wanted oR (yielded #[oA,oR] a.tmps) = true:=fun a=>by unfold Region.wanted; rw [a6']
 show wpOpsIn (FW none) 0 P #[oA,oR] _ [0,1] a1 w1
 have g0 : (#[oA,oR] : Array Oper)[0]? = some oA:=rfl
 have g1 : (#[oA,oR] : Array Oper)[1]? = some oR:=rfl
 simp only [wpOpsIn,g0,g1,hwA,hwR,if_true]
 have hev0 : a1.eval (.tmp x.ms) = .map (some (ρ1 r)):=hbm
 refine Jf (c:=.map (some (ρ1 r))) (w':=w1) (fun c e=>by rw [a1'] at e; cases e) ?_ ?_
 ·simp [execOp,a1',hev0,Result.andThen]
 rw [a2']
 have hI3 : Inv hi func.ntmps ds1 w1 S2 ρ1 β1 ⟨s.E,[],⟨s.M.B,H2⟩⟩ (a1.put (some ma) (.map (some (ρ1 r)))):=by
  have hk : ma < a1.tmps.size:=by rw [hI2.sz]; exact h.sma
  refine ⟨by simp [Act.put,hI2.sz],hI2.df,hI2.ok,fun k u hg=>?_,fun k u hg=>by simp [BA] at hg⟩
  obtain ⟨q1,q2,q3⟩:=hI2.env k u hg
  have hne : k ≠ ma:=fun e=>by rw [e,h.lma] at q1; cases q1
  rw [BB hk,AaL hne]
  exact ⟨q1,q2,q3⟩
 have hev1 : (a1.put (some ma) (.map (some (ρ1 r)))).eval (.tmp ma) = .map (some (ρ1 r)):=by
  show (a1.put (some ma) (.map (some (ρ1 r)))).tmps.getD ma undef = _
  rw [BB (by rw [hI2.sz]; exact h.sma),AaN rfl]
 have hrun:=run_range_map (P:=P) w1 ty kt et (ρ1 r) ents clock h.hty hh
 refine Jf (c:=.pointer (some ⟨w1.heap.size,0,none⟩)) (w':=w1.alloc (.mapIter (some (ρ1 r)) clock #[] clock)) (fun c e=>by rw [a4'] at e; cases e) ?_ ?_
 ·simp [execOp,a4',hev1,hrun,Result.andThen]
 rw [a5']
 generalize ha2 : a1.put (some ma) (.map (some (ρ1 r))) = a2 at hI3
 have hgw : Gw w1 (w1.alloc (.mapIter (some (ρ1 r)) clock #[] clock)) none:=Gw.alloc w1 _ _
 obtain ⟨m1,m2⟩:=hI3.ok.grow hgw (fun _ h=>h) (fun b h=>.inl h) (fun b h=>AbY (hI3.ok.lt b h) hgw.size)
 have hI4:=(hI3.step2 m1 m2).other h.sit hno h.lit (.pointer (some ⟨w1.heap.size,0,none⟩))
 have hit : (a2.put (some x.it) (.pointer (some ⟨w1.heap.size,0,none⟩))).tmps.getD x.it undef = .pointer (some ⟨w1.heap.size,0,none⟩):=by
  rw [BB (by rw [hI3.sz]; exact h.sit),AaN rfl]
 have hBes : Beside w1.heap.size (w1.alloc (.mapIter (some (ρ1 r)) clock #[] clock)) S2 ρ1 β1 ⟨s.M.B,H2⟩:=⟨fun hs=>by have:=hI3.ok.lt _ hs; omega,fun q hq e=>by have:=hI3.ok.rlt hq; omega,fun d hd e=>by have:=hI3.ok.blt hd; omega⟩
 have hst0 : Stp w1 S1 ρ1 β1 s.M (w1.alloc (.mapIter (some (ρ1 r)) clock #[] clock)) S2 ρ1 H2:=f2.trans (M1:=⟨s.M.B,H2⟩) (fun d hd=>.inl ⟨d,hd,rfl⟩) m2
 have hG4:=hG1.step hst0
 have hall : ∀ es2,es2.Perm es' -> ∃ s',(rgL call x.g es2 ⟨s.E,[],⟨s.M.B,H2⟩⟩).bind (rgE call x.g) = some s' /\ (evX call x.mT s').bind (fun q=>match q.1 with | .ret=>rfF x q.2 | _=>none) = some v:=fun es2 h2=>by
  have:=hperm es2 h2
  unfold rfO at this
  simp only [AaF] at this
  obtain ⟨s',⟨s'',q1,q2⟩,q3⟩:=this
  exact ⟨s',by simp only [AaF]; exact ⟨s'',q1,q2⟩,by simp only [AaF]; exact q3⟩
 refine wpIn_block (wpIn_loop_rounds (es'.length + 1) (Pv h.rg hcall (s0:=⟨s.E,[],⟨s.M.B,H2⟩⟩) hsize hbr (fun es2 h2=>let ⟨s',q1,_⟩:=hall es2 h2; ⟨s',q1⟩) (w0:=w1) (S0:=S1) (ρ0:=ρ1) (β0:=β1) (M0:=s.M) (AaQ _) (fun es2 s2 a3 w3 S3 ρ3 β3 hp2 hr2 k1 k2 k3 kG=>?_) (es'.length + 1) [] #[] clock ⟨s.E,[],⟨s.M.B,H2⟩⟩ _ _ S2 ρ1 β1 List.nodup_nil (fun j hj=>by cases hj) (by simp) rfl rfl hI4 hG4 hit ?_ (AaQ _) hBes ?_ hS2r (fun j k y hj=>?_) hst0 (fun d hd=>.inl ⟨d,hd,rfl⟩)))
 ·show Exit.inBlock jx _ (.exit jx) a3 w3
  simp only [Exit.inBlock,if_true]
  obtain ⟨s',q1,q2⟩:=hall es2 hp2
  rw [hr2] at q1
  cases q1
  simp only [AaF] at q2
  obtain ⟨⟨e3,s3⟩,q2,q4⟩:=q2
  obtain ⟨n3,q2⟩:=ID q2
  cases e3 with
  | nm=>cases q4
  | ex id=>cases q4
  | ret =>
   have hmk3:=hmk.step k2 k3
   refine Lj (rd:=none) hcall hq hm hrel n3 w.heap.size cT x.mT h.mT.1 h.mT.2 s2 .ret s3 a3 w3 S3 ρ3 β3 ds1 _ q2 k1 kG (AbF h2.size k2.size) hmk3 (fun l h=>by cases h) fun a4 w4 S4 ρ4 β4 ds4 n1 n2 n3 n4=>?_
   exact fin q4 n1 n2 ((h2.trans h3 k2).trans (h3.trans h2.size k3) n3)
 ·exact heap_alloc_new _ _
 ·rw [heap_alloc_old _ _ (by have:=h1.ok.rlt hrl; exact this)]
  exact hh
 ·obtain ⟨en,g1,g2,g3⟩:=hrep2 j k y hj
  exact ⟨en,g1,m2.imm g2,m2.vals _ _ g3⟩
theorem VJ {x : RF} {func : Func} {f : Nat} {pre : List (Code × C)} {cT : Code} {iA ma jx iB iC jb : Nat} {opsA opsB opsC : Array Oper} {cR : Code} {ty kt et : TypeId} (h : RfOk P hi gl sh dr x func pre cT iA ma jx iB iC jb opsA opsB opsC cR ty kt et) (hf : P.funcs[f]? = some func)
  (hm : P.follows .mixedOrders = true) (hrel : ∀ hi dr a c,cmpC P hi gl sh dr a = some c -> RelC hi dr a c) (hen : Ii P f) (hsh : sh f = true) : PrimOk P gl sh f (rfX x (func.params.size + func.nfree)) where
 shared:=hsh
 enters:=hen
 ok:=by
  intro call vs H v H' ⟨hcall,hq⟩ he w S ρ β B args hok hG hv
  unfold rfX at he
  simp only [AaF,Ah,AaV,AaG,AaH] at he
  obtain ⟨is,his,hlen,v',hv',rfl,rfl⟩:=he
  have hvs : vs = is.map .m:=IJ his
  subst hvs
  have hokc : Ok w S id id ⟨[],[]⟩:=⟨fun r row h=>by simp at h,fun d cs h=>by simp [getB] at h,fun r r' h=>by simp at h,fun d d' h=>by simp [getB] at h,fun r d h=>by simp at h,fun d h=>by simp [getB] at h,hok.lt⟩
  have hvc : All2 (RepX w S id id []) (is.map V.m) args.toList:=by
   generalize args.toList = cs at hv
   have key : ∀ (l : List I) (cs : List Value),All2 (RepX w S ρ β H) (l.map V.m) cs -> All2 (RepX w S id id []) (l.map V.m) cs:=by
    intro l
    induction l with
    | nil=>intro cs h; cases h; exact .nil
    | cons y t ih =>
     intro cs h
     cases h with
     | cons h1 h2=>exact .cons (RepX.ofV (.m (RepX.toV rfl h1).imm)) (ih _ h2)
   exact key is cs hv
  refine (SB h hf hcall hq hm hrel hv' hlen hokc hG hvc).mono fun e w' hh=>?_
  obtain ⟨c,S1,ρ1,p2,rfl,k1,k2,k3⟩:=hh
  have hgr : Gw w w' none:=⟨⟨k2.os,k2.tape,k2.output,k2.size,fun b hb _=>k2.keep b hb (fun r hr=>by simp at hr) (fun d hd=>by simp [getB] at hd)⟩,k2.drawn⟩
  have hlt : ∀ b,S b \/ (Sof S1 ρ1 p2 (fun _=>True) b /\ w.heap.size <= b) -> b < w'.heap.size:=fun b h=>by
   rcases h with h | ⟨h | ⟨r,_,hr,e⟩,_⟩
   ·exact AbY (hok.lt b h) k2.size
   ·exact k1.lt b h
   ·rw [e]; exact k1.rlt hr
  obtain ⟨m1,m2⟩:=Ok.grow (S':=fun b=>S b \/ (Sof S1 ρ1 p2 (fun _=>True) b /\ w.heap.size <= b)) hok hgr (fun b h=>.inl h) (fun b h=>h.imp id (·.2)) hlt
  have hin : ∀ b,Sof S1 ρ1 p2 (fun _=>True) b -> S b \/ (Sof S1 ρ1 p2 (fun _=>True) b /\ w.heap.size <= b):=fun b hb=>by
   have hb0:=hb
   rcases hb with hb | ⟨r,_,hr,e⟩
   ·rcases k2.news b hb with h | h | ⟨r,hr,_⟩
    ·exact .inl h
    ·exact .inr ⟨hb0,h⟩
    ·simp at hr
   ·rcases k2.rown r hr with ⟨q,hq,_⟩ | h
    ·simp at hq
    ·exact .inr ⟨hb0,by omega⟩
  have himm : YP v':=by
   unfold rfV at hv'
   simp only [AaF] at hv'
   obtain ⟨⟨e,s⟩,_,hv'⟩:=hv'
   have hfin : ∀ s,rfF x s = some v' -> YP v':=fun s hx=>by
    unfold rfF at hx
    simp only [AaF] at hx
    obtain ⟨u,_,hu⟩:=hx
    exact Jh hu
   cases e with
   | ret=>exact hfin s hv'
   | ex id=>cases hv'
   | nm =>
    simp only [AaF] at hv'
    obtain ⟨p,_,u,hu,hv'⟩:=hv'
    split at hv'
    ·cases hv'
     unfold rfO at hu
     simp only [AaF] at hu
     obtain ⟨s2,_,⟨e2,s3⟩,_,hu⟩:=hu
     cases e2 with
     | ret=>exact hfin s3 hu
     | nm=>cases hu
     | ex id=>cases hu
    ·cases hv'
  exact ⟨c,_,ρ,rfl,m1,m2,GQ himm k3 fun y c h=>h.mono (fun _ _=>rfl) hin⟩
end
end Go.Mx
namespace Go.Mx
open Go.Proofs
def cq1 : Code -> Code
 | .seq a _=>a
 | c=>c
def cq2 : Code -> Code
 | .seq _ b=>b
 | c=>c
def SL : Code -> Array Oper
 | .region _ ops _=>ops
 | _=>#[]
def mq1 : C -> C
 | .seq a _=>a
 | c=>c
def mq2 : C -> C
 | .seq _ b=>b
 | c=>c
def rgTy : Go.Op -> TypeId
 | .range t _=>t
 | _=>0
section
variable {P : Program} {hi : Hint} {gl : Nat -> Option (List I)} {nt : Nat}
theorem Gp {ops : Array Oper} : ∀ {l : List Nat} {qs : List Op},Ai (fun i=>(ops[i]?).bind (Oa P hi gl ops)) l = some qs -> qs.all (KF nt) = true -> All2 (Gh P hi gl nt ops) l qs
 | [],qs,h,_=>by
  simp only [Ai,AaG] at h
  subst h
  exact .nil
 | i :: l,qs,h,hw=>by
  simp only [Ai,AaF,AaG] at h
  obtain ⟨q,⟨o,ho,hq⟩,r,hr,rfl⟩:=h
  simp only [List.all_cons,AaJ] at hw
  exact .cons ⟨o,ho,hq,hw.1⟩ (Gp hr hw.2)
theorem PM {ops : Array Oper} {l : List Nat} {n0 : Nat} (h : (l.all fun i=>match ops[i]? with | some o=>o.dst != some n0 | none=>true) = true) : noD ops l n0:=fun i hi o ho=>by
 have:=AaZ.1 h i hi
 rw [ho] at this
 simpa using this
end
end Go.Mx
namespace Go.Mx.Tryz
open Go.Proofs
noncomputable def apB : Code:=(Go.Proofs.Tryz.f50.body).getD .skip
noncomputable def apT : Code:=cq2 (cq2 (cq2 (cq2 (cq2 apB))))
noncomputable def apL : Code:=match cq2 (cq1 apT) with
 | .block _ (.loop c)=>c
 | c=>c
noncomputable def apI : Code:=match cq2 (cq2 apL) with
 | .block _ c=>c
 | c=>c
noncomputable def apP : List (Code × C):=[(cq1 apB,mq1 c50.body),(cq1 (cq2 apB),mq1 (mq2 c50.body)),(cq1 (cq2 (cq2 apB)),mq1 (mq2 (mq2 c50.body))),(cq1 (cq2 (cq2 (cq2 apB))),mq1 (mq2 (mq2 (mq2 c50.body)))),(cq1 (cq2 (cq2 (cq2 (cq2 apB)))),mq1 (mq2 (mq2 (mq2 (mq2 c50.body)))))]
noncomputable def opsA : Array Oper:=SL (cq1 (cq1 apT))
noncomputable def opsB : Array Oper:=SL (cq1 apL)
noncomputable def opsC : Array Oper:=SL (cq1 apI)
def regO : C -> List Mx.Op
 | .reg l=>l
 | _=>[]
def blkC : C -> C
 | .blk _ c=>c
 | c=>c
noncomputable def apM : C:=mq2 (mq2 (mq2 (mq2 (mq2 c50.body))))
noncomputable def apG : Rg:=⟨(regO (mq1 c50_B1)).drop 1,(regO (mq1 (blkC (mq2 (mq2 c50_B1))))).drop 1,[regO (mq2 (blkC (mq2 (mq2 c50_B1))))],[6,10,11,22,23,24,25,50],49,51,50⟩
noncomputable def apF : RF:=⟨apP.map (·.2),apG,mq2 apM,6,48,[.t 4,.t 5]⟩
abbrev apH : Hint:=hqk 147572540799503036416 1280 bO
abbrev apD : Nat -> List Nat:=(dI [(5,[0,1,4,5,8,19,25,34,42]),(15,[6,10,11,22,23,24,25,50])])
theorem apRg : RgOk Go.Proofs.Tryz.prog apH gl Go.Proofs.Tryz.f50.ntmps apG 48 2 15 16 3 opsB opsC (cq2 apI) where
 oN:=⟨(opsB[0]?).get (by kernel_rfl),(Option.some_get _).symm,by kernel_rfl,by kernel_rfl,by kernel_rfl⟩
 qB:=Gp (by kernel_rfl) (by kernel_rfl)
 nB:=PM (by kernel_rfl)
 oE:=⟨(opsC[0]?).get (by kernel_rfl),(Option.some_get _).symm,by kernel_rfl,by kernel_rfl,by kernel_rfl⟩
 qC:=Gp (by kernel_rfl) (by kernel_rfl)
 nC:=PM (by kernel_rfl)
 rs:=RgsOk.one 17 (SL (cq2 apI)) _ (Gp (by kernel_rfl) (by kernel_rfl)) (PM (by kernel_rfl))
 ln:=by kernel_rfl
 le:=by kernel_rfl
 lb:=by kernel_rfl
 tn:=by decide
 te:=by decide
 sn:=by decide
 se:=by decide
theorem apOk : RfOk Go.Proofs.Tryz.prog apH gl sh apD apF Go.Proofs.Tryz.f50 apP (cq2 apT) 14 47 2 15 16 3 opsA opsB opsC (cq2 apI) (rgTy ((opsA[1]?).get (by kernel_rfl)).op) 46 3 where
 body:=by kernel_rfl
 preM:=rfl
 preOk:=fun q hq=>by
  have key : ∀ l : List (Code × C),(l.all fun q=>wfC Go.Proofs.Tryz.f50.ntmps q.2) = true -> l.map (fun q=>cmpC Go.Proofs.Tryz.prog apH gl sh apD q.1) = l.map (fun q=>some q.2) -> ∀ q,q ∈ l -> cmpC Go.Proofs.Tryz.prog apH gl sh apD q.1 = some q.2 /\ wfC Go.Proofs.Tryz.f50.ntmps q.2 = true:=by
   intro l h1 h2 q hq
   refine ⟨?_,AaZ.1 h1 q hq⟩
   obtain ⟨j,hj⟩:=AbW.1 hq
   have:=congrArg (·[j]?) h2
   simp only [Abb,hj,AbE,AaG] at this
   exact this
  exact key apP (by kernel_rfl) (by kernel_rfl) q hq
 opA:=⟨(opsA[0]?).get (by kernel_rfl),(opsA[1]?).get (by kernel_rfl),by kernel_rfl,by kernel_rfl,by kernel_rfl,by kernel_rfl,by kernel_rfl,by kernel_rfl,by kernel_rfl⟩
 lma:=by kernel_rfl
 sma:=by decide
 lit:=by kernel_rfl
 sit:=by decide
 hty:=by kernel_rfl
 rg:=apRg
 mT:=⟨by kernel_rfl,by kernel_rfl⟩
 res:=by kernel_rfl
 low:=by kernel_rfl
 np:=by decide
end Go.Mx.Tryz
