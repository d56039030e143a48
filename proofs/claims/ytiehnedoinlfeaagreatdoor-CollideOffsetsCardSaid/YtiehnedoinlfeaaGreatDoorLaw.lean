/- From a call that the machine shows to give 'true' to the row's contract. -/
import Derived.Test.YtiehnedoinlfeaaGreatDoorJoin
import Derived.Test.YtiehnedoinlfeaaGreatDoorWa
import Derived.ReadAgain
set_option linter.unusedSimpArgs false
set_option linter.unusedVariables false
set_option linter.unusedSectionVars false
namespace Go.Mx
open Go.Proofs.YtiehnedoinlfeaaGreatDoor (Rows.uptoBulk Rows.uptoBulkAll)
def ZL (P:Program)(t:TypeId)(l:List I):V:=match Cl P t with
  | some true=>.m (.ag l)
  | _=>match l with
    | [x]=>.m x
    | _=>.un
def DE (P:Program)(B n:Nat):List TypeId->List V->Prop
  | [],[]=>True
  | t::ts,v::vs=>(∃l,Fits P B n t l/\v=ZL P t l)/\DE P B n ts vs
  | _,_=>False
variable {t:TypeId} {us:List V}
theorem FI {P:Program}{B n:Nat}{z:List TypeId}(h:DE P B n (t::z) us):∃l r,us=ZL P t l::r/\Fits P B n t l/\DE P B n z r:=by
  cases us with
  | nil=>exact h.elim
  | cons u us =>
    obtain⟨⟨l,J,rfl⟩,E⟩:=h
    exact⟨l,us,rfl,J,E⟩
theorem RR {P:Program}{B n:Nat}(h:DE P B n [] us):us=[]:=by
  cases us with
  | nil=>rfl
  | cons u us=>exact h.elim
theorem XR {P:Program}{x:I}(h:Cl P t=some false):ZL P t [x]=.m x:=by unfold ZL;rw[h]
theorem Um {P:Program}{l:List I}(h:Cl P t=some true):ZL P t l=.m (.ag l):=by unfold ZL;rw[h]
section
variable {P:Program} {W W':World} {S:Nat->Prop} {H:Type} {enc:TypeId×Value->H} {gl:Nat->Option (List I)} {G:Cfg}
variable {t:TypeId} {ag:Bool} {base:Nat} {v:Value}
theorem Acf (h:Cl P t=some ag)(z:Value.okWide P W .any base t v):(ag=true /\ ∃cs,v=.agg cs)\/(ag=false/\v.cells=#[v]):=by
  simp only[Cl,Ahn]at h
  obtain⟨u,E,h⟩:=h
  unfold Value.okWide at z
  simp only[E]at z
  cases u <;> simp only[Aho]at h <;> subst h <;> simp only at z <;>
    first
      | (obtain⟨cs,rfl,_⟩:=z;exact .inl ⟨rfl,cs,rfl⟩)
      | (refine .inr ⟨rfl,?_⟩
         unfold Cell.okWide Cell.ok at z
         simp only[E]at z <;> (cases v <;> first|rfl|(exact z.elim)))
variable {n sz:Nat}
theorem Ace {B:Nat}(hS:∀b,b<W.heap.size->S b)(hl:Lj P n t=some sz)(Z:Cl P t=some ag)(hv:Value.okWide P W .any base t v){d:DataW H}{ps:List MemPlace} 
    (Q:DataW.Trod enc P W 0 (fun _=>true) true t v d ps) (hB:maxLen<=B\/Rows.uptoBulk d<=B):∃l,Fits P B n t l/\RepV W S id [] (ZL P t l) v:=by
  obtain⟨z,Q⟩:=Q
  obtain⟨l,_,hf,Y⟩:=If hS n t sz hl z _ _ _ Q hB
  refine⟨l,hf,?_⟩
  unfold ZL
  rw[Z]
  rcases Acf Z hv with ⟨rfl,cs,rfl⟩|⟨rfl,u⟩
  · obtain⟨N,E⟩:=Y
    refine .m (.ag l cs (by simpa[Value.cells]using N.symm) (fun j=>cs.getD j undef) (fun j x J=>?_) fun j x J=>?_)
    · obtain⟨c,u,_⟩:=E j x J
      have u:cs[j]? = some c:=by simpa[Value.cells]using u
      simp[u]
    · obtain⟨c,u,U⟩:=E j x J
      have u:cs[j]? = some c:=by simpa[Value.cells]using u
      simpa[u]using U
  · rw[u]at Y
    obtain⟨N,E⟩:=Y
    match l,N with
    | [x],_ =>
      obtain⟨c,u,U⟩:=E 0 x rfl
      simp at u
      subst u
      exact .m U
theorem PQ {B n:Nat}(E:∀b,b<W.heap.size->S b){base:Nat}:∀(z:List TypeId) (vs:List Value) (u:List (DataW H)) (ps:List MemPlace),(∀t,t∈z -> ∃sz ag,Lj P n t=some sz/\Cl P t=some ag) ->
    (∀(j:Nat) t v,z[j]? = some t->vs[j]? = some v->Value.okWide P W .any base t v)->DataW.TrodAll enc P W 0 (fun _=>true) true z vs u ps->(maxLen<=B\/Rows.uptoBulkAll u<=B) ->
    ∃us,DE P B n z us/\All2 (RepX W S id id []) us vs
  | [],[],[],ps,_,_,_,_=>⟨[],Aii,.nil⟩
  | t::z,v::vs,d::u,ps,hl,hv,hd,hB=>by
    obtain⟨p,q,U,Q,_⟩:=hd
    obtain⟨sz,ag,k1,N⟩:=hl t (by simp)
    obtain⟨l,Z,J⟩:=Ace E k1 N (hv 0 t v rfl rfl) U (hB.imp id fun h=>by simp only[Rows.uptoBulkAll]at h;omega)
    obtain⟨us,j1,j2⟩:=PQ E z vs u q (fun t Y=>hl t (by simp[Y])) (fun j t v a b=>hv (j+1) t v (by simpa using a) (by simpa using b)) Q (hB.imp id fun h=>by simp only[Rows.uptoBulkAll]at h;omega)
    exact⟨_::us,⟨⟨l,Z,rfl⟩,j1⟩,.cons (RepX.ofV J) j2⟩
  | [],v::vs,u,ps,_,_,hd,_=>by cases u <;> exact hd.elim
  | [],[],d::u,ps,_,_,hd,_=>hd.elim
  | t::z,[],u,ps,_,_,hd,_=>by cases u <;> exact hd.elim
  | t::z,v::vs,[],ps,_,_,hd,_=>hd.elim
theorem PM (J:∀b,b<W.heap.size->W'.heap[b]? = W.heap[b]?){N:Nat->Bool}:∀ {z:List TypeId} {vs:List Value} {u:List (DataW H)} {ps:List MemPlace},DataW.TrodAll enc P W 0 N true z vs u ps->DataW.TrodAll enc P W' 0 N true z vs u ps
  | [],[],[],_,h=>h
  | t::z,v::vs,d::u,ps,⟨p,q,⟨n,h1⟩,h2,e⟩=>by
    refine⟨p,q,⟨n,DataW.trod_carry n _ _ _ h1 fun x Q=>?_⟩,PM J h2,e⟩
    have E:=DataW.trod_lt n _ _ _ h1 x Q
    cases x with
    | cell b off=>exact World.cell?_of_block (a:=⟨b,off,none⟩) (J b E)
    | map b=>exact J b E
  | [],v::vs,u,ps,hd=>by cases u <;> exact hd.elim
  | [],[],d::u,ps,hd=>hd.elim
  | t::z,[],u,ps,hd=>by cases u <;> exact hd.elim
  | t::z,v::vs,[],ps,hd=>hd.elim
theorem AbJ (N:W'.os=W.os)(J:W'.output=W.output)(Q:∀b,b<W.heap.size->W'.heap[b]? = W.heap[b]?)(u:MemPlace->Prop):W.keptBut W' u:=by
  refine⟨N,J,fun i E=>?_⟩
  rw[Q i E]
  cases hh:W.heap[i]? with
  | none=>simp
  | some o =>
    cases o with
    | cells c t Y=>exact⟨rfl,rfl,rfl,fun _ _=>rfl⟩
    | map U z=>exact .inr ⟨rfl,rfl⟩
    | _=>rfl
structure SeatOk (P:Program)(gl:Nat->Option (List I))(G:Cfg):Prop where
  cfg:CfgOk P gl G
  lay:laidOutB P=true
  maps:mapsRowed P=true
  full:((List.range P.types.size).all fun t=>match P.underlying t with|some (.slice e)=>decide (0<P.cellsOf e)|_=>true)=true
theorem contract (hP:SeatOk P gl G){f:FuncId}{func:Func}{bt:TypeId}(hres:func.resultTypes=#[bt])(hbt:P.underlying bt=some .bool){s:ChangeSpec}(E:s.vars=[]){B:Nat} 
    (Q:∀t,t∈func.params.toList->t<P.types.size /\ ∃sz ag,Lj P n t=some sz/\Cl P t=some ag)
    (z:∀(u:List (DataW H)),u.length=func.params.size->s.fn H u={ results:=[.lit (.bool true)],args:=u })
    (law:∀us,DE P B n func.params.toList us->Gives G f us [] (.m (.b true)) [])
 {args:Array Value} {u gs:List (DataW H)} {N:List MemPlace} (hval:∀(j:Nat) t v,func.params[j]? = some t->args[j]? = some v->Value.okWide P W .any base t v)
    (hW:DataW.Whole enc P func.params.toList s.vars false W args.toList u gs N) (hB:maxLen<=B\/Rows.uptoBulkAll (u++gs)<=B) (hgl:GlOk gl W (fun b=>b<W.heap.size)) (hny:f≠yN:=by decide) :
    Calls P f args W fun e W'=>∃v,e=.returned v/\s.post enc P func false true false false W args v W':=by
  have hW':=hW
  obtain⟨p,q,hA,hV,rfl,hfz,hnd⟩:=hW
  rw[E]at hV
  have hg0:gs=[]/\q=[]:=by
    cases gs with
    | nil=>exact⟨rfl,hV⟩
    | cons g gs=>exact hV.elim
  obtain⟨rfl,rfl⟩:=hg0
  have U:u.length=func.params.size:=by
    have key:∀ {ts:List TypeId} {vs:List Value} {u:List (DataW H)} {ps:List MemPlace},DataW.TrodAll enc P W 0 (fun _=>true) true ts vs u ps->u.length=ts.length:=fun {ts}=>by
      induction ts with
      | nil=>intro vs u ps h;cases vs <;> cases u <;> first|rfl|exact h.elim
      | cons t ts ih =>
        intro vs u ps h
        cases vs <;> cases u <;> first|exact h.elim|skip
        obtain⟨_,_,_,h2,_⟩:=h
        simp[ih h2]
    have:=key hA
    simpa using this
  obtain⟨us,hus,hrep⟩:=PQ (B:=B) (n:=n) (S:=fun b=>b<W.heap.size) (fun _ h=>h) func.params.toList args.toList u p (fun t ht=>(Q t ht).2) (fun j t v a b=>hval j t v (by simpa using a) (by simpa using b)) hA
    (hB.imp id fun h=>by simpa using h)
  obtain⟨m,hm⟩:=law us hus
  have hok:Ok W (fun b=>b<W.heap.size) id id ⟨[],[]⟩:=⟨fun r row h=>by simp at h,fun d cs h=>by simp[getB]at h,fun r r' h=>by simp at h,fun d d' h=>by simp[getB]at h,fun r d h=>by simp at h,fun d h=>by simp[getB]at h,fun b hb=>hb⟩
  obtain⟨_,J⟩:=((Mv hP.cfg m).1 f us [] _ [] hm).1 hny
  refine(J W _ id id [] args hok hgl hrep).mono fun e W' h=>?_
  obtain⟨c,S',ρ',rfl,_,Y,Z⟩:=h
  have Z:=CH Z
  subst Z
  have Z:∀b,b<W.heap.size->W'.heap[b]? = W.heap[b]?:=Y.heap
  refine⟨_,rfl,u,[],p++[],[],p,[],hW',?_,?_,?_,AbJ Y.os Y.output Z _,fun h=>by cases h⟩
  · rw[hres,Ail,z u U]
    exact⟨[],[],⟨1,by simp[DataW.trod,hbt,Value.cells]⟩,rfl,rfl⟩
  · rw[Ail,z u U]
    refine PM Z (DataW.TrodAll.respare (T:=(· < P.types.size)) (kids_rows hP.lay hP.maps) (fun t e hl ht=>slices_full_of P hP.full t e hl ht) (fun t ht=>(Q t ht).1) hA fun x hx=>?_)
    have:=DataW.TrodAll.lt hA x hx
    simpa using this
  · rw[E,Ail,z u U]
    rfl
theorem Ty:∀ {z:List (String×DataW Unit)} {ps:List MemPlace},DataW.LaidVars P W z ps -> ∀(j:Nat) name d,z[j]? = some (name,d) ->
    ∃g t cs u p,P.globalNamed name=some g/\(P.globals[g]?).map (·.type)=some t/\W.var? P name=some cs/\DataW.trod (fun _=>()) P W 0 (fun _=>true) false u t cs.toList=some (d,p)
  | [],_,_,j,name,d,hj=>by simp at hj
  | (n,d0)::r,ps,h,j,name,d,hj=>by
    obtain⟨g,t,cs,u,p,q,U,J,N,E,Q,_⟩:=h
    cases j with
    | zero =>
      simp only[List.getElem?_cons_zero,Aho,Ahp]at hj
      obtain⟨rfl,rfl⟩:=hj
      exact⟨g,t,cs,u,p,U,J,N,E⟩
    | succ j=>exact Ty Q j name d (by simpa using hj)
theorem Xt {z:List (String×DataW Unit)}(h:laidMet P z W){j:Nat}{u:String}{d:DataW Unit}(hj:z[j]? = some (u,d)){g:Nat}(hg:P.globalNamed u=some g)(ht:(P.globals[g]?).map (·.type)=some t) 
 (hl:Lj P n t=some sz) {l:List I} (hi:toI P n t d=some l) (a0:l≠[]):RepI W (fun b=>b<W.heap.size) (.pt l) (.pointer (some ⟨g,0,none⟩)):=by
  obtain⟨ps,a1,_⟩:=h
  obtain⟨g',t',cs,N,p,J,Y,h3,h4⟩:=Ty a1 j u d hj
  rw[hg]at J
  cases J
  rw[ht]at Y
  cases Y
  obtain⟨l',k1,_,k2,k3⟩:=If (S:=fun b=>b<W.heap.size) (B:=maxLen) (fun _ h=>h) n t sz hl N _ _ _ h4 (.inl (Ahu _))
  rw[hi]at k1
  cases k1
  have E:∀(j:Nat) x,l[j]? = some x -> ∃c,W.cell? ⟨g,0+j,none⟩=some c/\RepI W (fun b=>b<W.heap.size) x c:=fun j x Q=>by
    obtain⟨c,U,hr⟩:=k3 j x Q
    refine⟨c,?_,hr⟩
    rw[Air,World.var?_cell hg h3 j]
    simpa using U
  have Z:g<W.heap.size:=by
    cases l with
    | nil=>exact absurd rfl a0
    | cons x r =>
      obtain⟨c,U,_⟩:=E 0 x rfl
      unfold World.cell? at U
      split at U
      · rename_i hh;exact(AhY.1 hh).1
      · cases U
  exact .pt l g 0 (fun j=>(W.cell? ⟨g,0+j,none⟩).getD undef) Z (fun j x Q=>by obtain⟨c,J,_⟩:=E j x Q;rw[J];rfl) (fun j x Q=>by obtain⟨c,J,Y⟩:=E j x Q;simp only[J,AiT];exact Y)
end
end Go.Mx
