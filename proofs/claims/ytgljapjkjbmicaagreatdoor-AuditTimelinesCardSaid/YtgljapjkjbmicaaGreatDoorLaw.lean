/- From a call that the machine shows to give 'true' to the row's contract. -/
import Derived.Test.YtgljapjkjbmicaaGreatDoorJoin
import Derived.Test.YtgljapjkjbmicaaGreatDoorWa
import Derived.ReadAgain
set_option linter.unusedSimpArgs false
set_option linter.unusedVariables false
set_option linter.unusedSectionVars false
namespace Go.Mx
open Go.Proofs.YtgljapjkjbmicaaGreatDoor (Rows.uptoBulk Rows.uptoBulkAll)
def XP (P : Program) (t : TypeId) (l : List I) : V:=match BZ P t with
  | some true=>.m (.ag l)
  | _=>match l with
    | [x]=>.m x
    | _=>.un
def Ea (P : Program) (B n : Nat) : List TypeId -> List V -> Prop
  | [],[]=>True
  | t :: ts,v :: vs=>(∃ l,Fits P B n t l /\ v = XP P t l) /\ Ea P B n ts vs
  | _,_=>False
theorem Hf {P : Program} {B n : Nat} {t : TypeId} {ts : List TypeId} {us : List V} (h : Ea P B n (t :: ts) us) : ∃ l r,us = XP P t l :: r /\ Fits P B n t l /\ Ea P B n ts r:=by
  cases us with
  | nil=>exact h.elim
  | cons u us =>
    obtain ⟨⟨l,h1,rfl⟩,h2⟩:=h
    exact ⟨l,us,rfl,h1,h2⟩
theorem On {P : Program} {B n : Nat} {us : List V} (h : Ea P B n [] us) : us = []:=by
  cases us with
  | nil=>rfl
  | cons u us=>exact h.elim
theorem Lp {P : Program} {t : TypeId} {l : List I} (h : BZ P t = some true) : XP P t l = .m (.ag l):=by unfold XP; rw [h]
section
variable {P : Program} {W W' : World} {S : Nat -> Prop} {H : Type} {enc : TypeId × Value -> H} {gl : Nat -> Option (List I)} {G : Cfg}
theorem Ws {t : TypeId} {ag : Bool} (h : BZ P t = some ag) {base : Nat} {v : Value} (hv : Value.okWide P W .any base t v) : (ag = true /\ ∃ cs,v = .agg cs) \/ (ag = false /\ v.cells = #[v]):=by
  simp only [BZ,AaF] at h
  obtain ⟨u,hu,h⟩:=h
  unfold Value.okWide at hv
  simp only [hu] at hv
  cases u <;> simp only [AaG] at h <;> subst h <;> simp only at hv <;>
    first
      | (obtain ⟨cs,rfl,_⟩:=hv; exact .inl ⟨rfl,cs,rfl⟩)
      | (refine .inr ⟨rfl,?_⟩
         unfold Cell.okWide Cell.ok at hv
         simp only [hu] at hv <;> (cases v <;> first | rfl | (exact hv.elim)))
theorem Wr {B n : Nat} {t : TypeId} {sz : Nat} {ag : Bool} (hS : ∀ b,b < W.heap.size -> S b) (hl : IZ P n t = some sz) (ha : BZ P t = some ag) {base : Nat} {v : Value} (hv : Value.okWide P W .any base t v) {d : DataW H} {ps : List MemPlace}
    (hd : DataW.Trod enc P W 0 (fun _=>true) true t v d ps) (hB : maxLen <= B \/ Rows.uptoBulk d <= B) : ∃ l,Fits P B n t l /\ RepV W S id [] (XP P t l) v:=by
  obtain ⟨fuel,hd⟩:=hd
  obtain ⟨l,_,hf,hr⟩:=GF hS n t sz hl fuel _ _ _ hd hB
  refine ⟨l,hf,?_⟩
  unfold XP
  rw [ha]
  rcases Ws ha hv with ⟨rfl,cs,rfl⟩ | ⟨rfl,hc⟩
  · obtain ⟨h1,h2⟩:=hr
    refine .m (.ag l cs (by simpa [Value.cells] using h1.symm) (fun j=>cs.getD j undef) (fun j x hj=>?_) fun j x hj=>?_)
    · obtain ⟨c,hc,_⟩:=h2 j x hj
      have hc : cs[j]? = some c:=by simpa [Value.cells] using hc
      simp [hc]
    · obtain ⟨c,hc,hx⟩:=h2 j x hj
      have hc : cs[j]? = some c:=by simpa [Value.cells] using hc
      simpa [hc] using hx
  · rw [hc] at hr
    obtain ⟨h1,h2⟩:=hr
    match l,h1 with
    | [x],_ =>
      obtain ⟨c,hc,hx⟩:=h2 0 x rfl
      simp at hc
      subst hc
      exact .m hx
theorem MN {B n : Nat} (hS : ∀ b,b < W.heap.size -> S b) {base : Nat} : ∀ (ts : List TypeId) (vs : List Value) (ds : List (DataW H)) (ps : List MemPlace),(∀ t,t ∈ ts -> ∃ sz ag,IZ P n t = some sz /\ BZ P t = some ag) ->
    (∀ (j : Nat) t v,ts[j]? = some t -> vs[j]? = some v -> Value.okWide P W .any base t v) -> DataW.TrodAll enc P W 0 (fun _=>true) true ts vs ds ps -> (maxLen <= B \/ Rows.uptoBulkAll ds <= B) ->
    ∃ us,Ea P B n ts us /\ All2 (RepX W S id id []) us vs
  | [],[],[],ps,_,_,_,_=>⟨[],AbL,.nil⟩
  | t :: ts,v :: vs,d :: ds,ps,hl,hv,hd,hB=>by
    obtain ⟨p,q,h1,h2,_⟩:=hd
    obtain ⟨sz,ag,k1,k2⟩:=hl t (by simp)
    obtain ⟨l,hf,hr⟩:=Wr hS k1 k2 (hv 0 t v rfl rfl) h1 (hB.imp id fun h=>by simp only [Rows.uptoBulkAll] at h; omega)
    obtain ⟨us,j1,j2⟩:=MN hS ts vs ds q (fun t ht=>hl t (by simp [ht])) (fun j t v a b=>hv (j + 1) t v (by simpa using a) (by simpa using b)) h2 (hB.imp id fun h=>by simp only [Rows.uptoBulkAll] at h; omega)
    exact ⟨_ :: us,⟨⟨l,hf,rfl⟩,j1⟩,.cons (RepX.ofV hr) j2⟩
  | [],v :: vs,ds,ps,_,_,hd,_=>by cases ds <;> exact hd.elim
  | [],[],d :: ds,ps,_,_,hd,_=>hd.elim
  | t :: ts,[],ds,ps,_,_,hd,_=>by cases ds <;> exact hd.elim
  | t :: ts,v :: vs,[],ps,_,_,hd,_=>hd.elim
theorem MK (hc : ∀ b,b < W.heap.size -> W'.heap[b]? = W.heap[b]?) {sp : Nat -> Bool} : ∀ {ts : List TypeId} {vs : List Value} {ds : List (DataW H)} {ps : List MemPlace},DataW.TrodAll enc P W 0 sp true ts vs ds ps -> DataW.TrodAll enc P W' 0 sp true ts vs ds ps
  | [],[],[],_,h=>h
  | t :: ts,v :: vs,d :: ds,ps,⟨p,q,⟨n,h1⟩,h2,e⟩=>by
    refine ⟨p,q,⟨n,DataW.trod_carry n _ _ _ h1 fun x hx=>?_⟩,MK hc h2,e⟩
    have hlt:=DataW.trod_lt n _ _ _ h1 x hx
    cases x with
    | cell b off=>exact World.cell?_of_block (a:=⟨b,off,none⟩) (hc b hlt)
    | map b=>exact hc b hlt
  | [],v :: vs,ds,ps,hd=>by cases ds <;> exact hd.elim
  | [],[],d :: ds,ps,hd=>hd.elim
  | t :: ts,[],ds,ps,hd=>by cases ds <;> exact hd.elim
  | t :: ts,v :: vs,[],ps,hd=>hd.elim
theorem Wh (ho : W'.os = W.os) (hp : W'.output = W.output) (hc : ∀ b,b < W.heap.size -> W'.heap[b]? = W.heap[b]?) (may : MemPlace -> Prop) : W.keptBut W' may:=by
  refine ⟨ho,hp,fun i hi=>?_⟩
  rw [hc i hi]
  cases hh : W.heap[i]? with
  | none=>simp
  | some o =>
    cases o with
    | cells c t fr=>exact ⟨rfl,rfl,rfl,fun _ _=>rfl⟩
    | map es clock=>exact .inr ⟨rfl,rfl⟩
    | _=>rfl
structure SeatOk (P : Program) (gl : Nat -> Option (List I)) (G : Cfg) : Prop where
  cfg : CfgOk P gl G
  lay : laidOutB P = true
  maps : mapsRowed P = true
  full : ((List.range P.types.size).all fun t=>match P.underlying t with | some (.slice e)=>decide (0 < P.cellsOf e) | _=>true) = true
theorem contract (hP : SeatOk P gl G) {f : FuncId} {func : Func} {bt : TypeId} (hres : func.resultTypes = #[bt]) (hbt : P.underlying bt = some .bool) {s : ChangeSpec} (hvars : s.vars = []) {B n : Nat}
    (hpar : ∀ t,t ∈ func.params.toList -> t < P.types.size /\ ∃ sz ag,IZ P n t = some sz /\ BZ P t = some ag)
    (hspec : ∀ (ds : List (DataW H)),ds.length = func.params.size -> s.fn H ds = { results:=[.lit (.bool true)],args:=ds })
    (law : ∀ us,Ea P B n func.params.toList us -> Gives G f us [] (.m (.b true)) [])
    {base : Nat} {args : Array Value} {ds gs : List (DataW H)} {before : List MemPlace} (hval : ∀ (j : Nat) t v,func.params[j]? = some t -> args[j]? = some v -> Value.okWide P W .any base t v)
    (hW : DataW.Whole enc P func.params.toList s.vars false W args.toList ds gs before) (hB : maxLen <= B \/ Rows.uptoBulkAll (ds ++ gs) <= B) (hgl : GlOk gl W (fun b=>b < W.heap.size)) (hny : f ≠ yN:=by decide) :
    Calls P f args W fun e W'=>∃ v,e = .returned v /\ s.post enc P func false true false false W args v W':=by
  have hW':=hW
  obtain ⟨p,q,hA,hV,rfl,hfz,hnd⟩:=hW
  rw [hvars] at hV
  have hg0 : gs = [] /\ q = []:=by
    cases gs with
    | nil=>exact ⟨rfl,hV⟩
    | cons g gs=>exact hV.elim
  obtain ⟨rfl,rfl⟩:=hg0
  have hdl : ds.length = func.params.size:=by
    have key : ∀ {ts : List TypeId} {vs : List Value} {ds : List (DataW H)} {ps : List MemPlace},DataW.TrodAll enc P W 0 (fun _=>true) true ts vs ds ps -> ds.length = ts.length:=fun {ts}=>by
      induction ts with
      | nil=>intro vs ds ps h; cases vs <;> cases ds <;> first | rfl | exact h.elim
      | cons t ts ih =>
        intro vs ds ps h
        cases vs <;> cases ds <;> first | exact h.elim | skip
        obtain ⟨_,_,_,h2,_⟩:=h
        simp [ih h2]
    have:=key hA
    simpa using this
  obtain ⟨us,hus,hrep⟩:=MN (B:=B) (n:=n) (S:=fun b=>b < W.heap.size) (fun _ h=>h) func.params.toList args.toList ds p (fun t ht=>(hpar t ht).2) (fun j t v a b=>hval j t v (by simpa using a) (by simpa using b)) hA
    (hB.imp id fun h=>by simpa using h)
  obtain ⟨m,hm⟩:=law us hus
  have hok : Ok W (fun b=>b < W.heap.size) id id ⟨[],[]⟩:=⟨fun r row h=>by simp at h,fun d cs h=>by simp [getB] at h,fun r r' h=>by simp at h,fun d d' h=>by simp [getB] at h,fun r d h=>by simp at h,fun d h=>by simp [getB] at h,fun b hb=>hb⟩
  obtain ⟨_,hcalls⟩:=((JW hP.cfg m).1 f us [] _ [] hm).1 hny
  refine (hcalls W _ id id [] args hok hgl hrep).mono fun e W' h=>?_
  obtain ⟨c,S',ρ',rfl,_,hst,hc⟩:=h
  have hc:=BH hc
  subst hc
  have hc : ∀ b,b < W.heap.size -> W'.heap[b]? = W.heap[b]?:=hst.heap
  refine ⟨_,rfl,ds,[],p ++ [],[],p,[],hW',?_,?_,?_,Wh hst.os hst.output hc _,fun h=>by cases h⟩
  · rw [hres,AbI,hspec ds hdl]
    exact ⟨[],[],⟨1,by simp [DataW.trod,hbt,Value.cells]⟩,rfl,rfl⟩
  · rw [AbI,hspec ds hdl]
    refine MK hc (DataW.TrodAll.respare (T:=(· < P.types.size)) (kids_rows hP.lay hP.maps) (fun t e hl ht=>slices_full_of P hP.full t e hl ht) (fun t ht=>(hpar t ht).1) hA fun x hx=>?_)
    have:=DataW.TrodAll.lt hA x hx
    simpa using this
  · rw [hvars,AbI,hspec ds hdl]
    rfl
theorem PU : ∀ {laid : List (String × DataW Unit)} {ps : List MemPlace},DataW.LaidVars P W laid ps -> ∀ (j : Nat) name d,laid[j]? = some (name,d) ->
    ∃ g t cs fuel p,P.globalNamed name = some g /\ (P.globals[g]?).map (·.type) = some t /\ W.var? P name = some cs /\ DataW.trod (fun _=>()) P W 0 (fun _=>true) false fuel t cs.toList = some (d,p)
  | [],_,_,j,name,d,hj=>by simp at hj
  | (n,d0) :: r,ps,h,j,name,d,hj=>by
    obtain ⟨g,t,cs,fuel,p,q,h1,h2,h3,h4,h5,_⟩:=h
    cases j with
    | zero =>
      simp only [List.getElem?_cons_zero,AaG,AaH] at hj
      obtain ⟨rfl,rfl⟩:=hj
      exact ⟨g,t,cs,fuel,p,h1,h2,h3,h4⟩
    | succ j=>exact PU h5 j name d (by simpa using hj)
theorem SY {laid : List (String × DataW Unit)} (h : laidMet P laid W) {j : Nat} {name : String} {d : DataW Unit} (hj : laid[j]? = some (name,d)) {g : Nat} (hg : P.globalNamed name = some g) {t : TypeId} (ht : (P.globals[g]?).map (·.type) = some t)
    {n sz : Nat} (hl : IZ P n t = some sz) {l : List I} (hi : toI P n t d = some l) (hne : l ≠ []) : RepI W (fun b=>b < W.heap.size) (.pt l) (.pointer (some ⟨g,0,none⟩)):=by
  obtain ⟨ps,hlv,_⟩:=h
  obtain ⟨g',t',cs,fuel,p,h1,h2,h3,h4⟩:=PU hlv j name d hj
  rw [hg] at h1
  cases h1
  rw [ht] at h2
  cases h2
  obtain ⟨l',k1,_,k2,k3⟩:=GF (S:=fun b=>b < W.heap.size) (B:=maxLen) (fun _ h=>h) n t sz hl fuel _ _ _ h4 (.inl (AaQ _))
  rw [hi] at k1
  cases k1
  have key : ∀ (j : Nat) x,l[j]? = some x -> ∃ c,W.cell? ⟨g,0 + j,none⟩ = some c /\ RepI W (fun b=>b < W.heap.size) x c:=fun j x hx=>by
    obtain ⟨c,hc,hr⟩:=k3 j x hx
    refine ⟨c,?_,hr⟩
    rw [Nat.zero_add,World.var?_cell hg h3 j]
    simpa using hc
  have hgl : g < W.heap.size:=by
    cases l with
    | nil=>exact absurd rfl hne
    | cons x r =>
      obtain ⟨c,hc,_⟩:=key 0 x rfl
      unfold World.cell? at hc
      split at hc
      · rename_i hh; exact (Abk.1 hh).1
      · cases hc
  exact .pt l g 0 (fun j=>(W.cell? ⟨g,0 + j,none⟩).getD undef) hgl (fun j x hx=>by obtain ⟨c,h1,_⟩:=key j x hx; rw [h1]; rfl) (fun j x hx=>by obtain ⟨c,h1,h2⟩:=key j x hx; simp only [h1,Option.getD_some]; exact h2)
end
end Go.Mx
