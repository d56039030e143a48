/- The primitive of the machine for slices.Sorted of what maps.Keys gave, at maps with strings as keys. -/
import Derived.Test.YtiehnedoinlfeaaGreatDoorBd
import Derived.Shelf.SlIter.Sorted
import Derived.Sort.Walk0
set_option linter.unusedSimpArgs false
set_option linter.unusedVariables false
set_option linter.unusedSectionVars false
set_option maxRecDepth 100000
set_option linter.unusedVariables false
namespace Go.Mx
open Go.Proofs Go.RowKit Go.Sort
variable {P:Program}
def insL (x:List Nat):List (List Nat)->List (List Nat)
 | []=>[x]
 | y::r=>match ltL y x with
  | true=>y::insL x r
  | false=>x::y::r
def AaB:List (List Nat)->List (List Nat)
 | []=>[]
 | x::r=>insL x (AaB r)
def nodL:List (List Nat)->Bool
 | []=>true
 | x::r=>!(r.any (eqL x))&&nodL r
def kyS:List (I×V)->Option (List (List Nat))
 | []=>some []
 | (k,_)::r=>match k with
  | .s l=>(kyS r).bind fun t=>some (l::t)
  | _=>none
def kyV (ks:List (List Nat)):I:=match ks with
 | []=>.nl 4
 | x::r=>.sl ((AaB (x::r)).map fun l=>[.s l])
def kyX (g:Nat)(_:Bt)(vs:List V)(H:Hp):Option (V×Hp):=match vs with
 | [.fn f [.pt r ver 0 0]]=>gd (Nat.beq f g) ((readA ⟨[],H⟩ 1 (.pt r ver 0 0)).bind fun cs=>match cs with
  | [.mp q]=>(nth H q).bind fun row=>match row with
   | .mp es _=>(kyS es).bind fun ks=>gd (nodL ks&&(Nat.ble ks.length 1000000&&ks.all fun l=>Nat.ble l.length 1000000)) (some (.m (kyV ks),H))
   | _=>none
  | _=>none)
 | _=>none
def Aar (P:Program)(f g:Nat):Prop:=∀(Bm b:Nat) (ents:Array MapEntry) (clock:Nat) (ks:List (List UInt8)) (w:World),Bm<w.heap.size->w.cell? ⟨Bm,0,none⟩=some (.map (some b))->w.heap[b]? = some (.map ents clock)->Brn ents clock ->
 ents.toList.map (·.key)=ks.map encStr->ks.Nodup->ks.length<=1000000->(∀k,k∈ks->k.length<=1000000) ->
 Calls P f #[.func (.func g) #[] #[.pointer (some ⟨Bm,0,none⟩)]] w fun e w'=>∃v T,e=.returned v/\w'.ownsRow w.heap.size T 1 v ks.length ((ks.mergeSort leB).map encStr)/\(v=.slice none 0 0↔ks=[])/\Below w.heap.size w w'
theorem AbG {ρ σ:Go.Shelf.Ren}(Lk:SlLaysZ.n10 P ρ)(Ls:SlLaysZ.n6 P σ)(hs:∀m,AnyZ.SortsIn P σ Fence.wide m)(e9:∀(args:Array Value) (w:World),(callFunc (σ.f 9) args).run P w=.ok (.enter (σ.f 9) args) w)(hk:P.underlying (ρ.t 26)=some .string):Aar P (σ.f 6) (ρ.f 10):=fun Bm b u U J w hBm hm hh a0 N hnd hlen hall=>by
 have hsz:u.size=J.length:=by
  have:=AiO List.length N
  simpa using this
 have a2:∀x,x∈u.toList -> ∃k,k∈J/\x.key=encStr k:=fun x W=>by
  have:x.key∈J.map encStr:=by rw[<-N];exact AiN W
  obtain⟨k,h1,h2⟩:=AhP.1 this
  exact⟨k,h1,h2.symm⟩
 have Z:∀x,x∈u.toList -> ∀k,k∈J->x.key=encStr k->keyOf P (ρ.t 26) x.key=some (.string k):=fun x _ k E e=>by
  rw[e]
  have:=hall k E
  have:=WideMaps.keyOf_string_mk hk (s:=⟨k.toArray⟩) (by show k.toArray.size<=maxLen;simp[maxLen];omega)
  simpa using this
 let R:Value->Option (DataW Nat×List MemPlace):=fun _=>some (.nil,[])
 have hrd:∀x,x∈u.toList -> ∀k,k∈J->x.key=encStr k->WideElems.rg P (ρ.t 26) R x=(.string k,.nil):=fun x W k E e=>by
  unfold WideElems.rg WideElems.rd
  rw[Z x W k E e]
  rfl
 have Y:w.ownsMap P (ρ.t 26) R b u.size (.map ((u.toList.map (WideElems.rg P (ρ.t 26) R)).foldr DataW.insert [])):=by
  refine⟨u,U,hh,⟨by rw[hsz];simp[maxLen];omega,⟨a0.1,a0.2,?_⟩,fun x W=>?_⟩,Ahu _,rfl⟩
  ·rw[N]
   exact hnd.map _ fun a b hab e=>hab (encStr_inj e)
  ·obtain⟨k,E,e⟩:=a2 x W
   refine⟨(.string k,.nil),?_⟩
   unfold WideElems.rd
   rw[Z x W k E e]
   rfl
 have z:(strKeys (.map ((u.toList.map (WideElems.rg P (ρ.t 26) R)).foldr DataW.insert []):DataW Nat)).Perm J:=by
  show (((u.toList.map (WideElems.rg P (ρ.t 26) R)).foldr DataW.insert []).map fun p=>_root_.Go.strOf p.1).Perm J
  refine((WideShapes.sorted_perm _).map _).trans ?_
  rw[Aiy]
  have key:∀(l:List MapEntry) (m:List (List UInt8)),l.map (·.key)=m.map encStr->(∀x,x∈l->x∈u.toList)->(∀k,k∈m->k∈J)->l.map ((fun p=>_root_.Go.strOf p.1) ∘ WideElems.rg P (ρ.t 26) R)=m:=by
   intro l
   induction l with
   | nil=>intro m h _ _;cases m with
    | nil=>rfl
    | cons=>cases h
   | cons x r ih=>intro m h h1 h2;cases m with
    | nil=>cases h
    | cons k t =>
     simp only[AhV,List.cons.injEq]at h
     rw[AhV,ih t h.2 (fun y hy=>h1 y (Aij _ hy)) (fun y hy=>h2 y (Aij _ hy))]
     have:=hrd x (h1 x (AhR ..)) k (h2 k (AhR ..)) h.1
     simp only[Function.comp,this]
     rfl
  rw[key u.toList J N (fun _ h=>h) (fun _ h=>h)]
 have hD:Maps.size (.map ((u.toList.map (WideElems.rg P (ρ.t 26) R)).foldr DataW.insert []):DataW Nat)=J.length:=by
  have:=z.length_eq
  simpa[strKeys,Maps.size]using this
 have a1:=AnyZ.keys_gives Lk Fence.wide 2 Aii rfl (by omega) Bm b u.size _ w hBm hm Y
 have cS:=AnyZ.sorted_in Ls Fence.wide 5 Aii Aii Aii Aii rfl (by omega) (hs _) e9 (ρ.f 10) #[.pointer (some ⟨Bm,0,none⟩)] Aii (Lk.f10.enters rfl) _ _ (by rw[hD];simp[maxLen];omega) (by rw[hD];omega) w a1
 refine(callsIn_wide.1 cS).mono fun e w' he=>?_
 obtain⟨v,ss,rfl,hp,Q,hnil,hb⟩:=he
 have hp:=hp.trans z
 have hl:=hp.length_eq
 have e2:ss.mergeSort (fun x y=>decide (x<=y))=J.mergeSort leB:=mergeSort_of_perm hp
 rw[e2,hl]at Q
 refine⟨v,_,rfl,Q,hnil.trans ⟨fun h=>?_,fun h=>?_⟩,hb⟩
 ·subst h
  exact AhT hl.symm
 ·subst h
  exact AhT hl
def bnL (k:List UInt8):List Nat:=k.map UInt8.toNat
def ZC (x:List UInt8):List (List UInt8)->List (List UInt8)
 | []=>[x]
 | y::r=>if y<x then y::ZC x r else x::y::r
def SP:List (List UInt8)->List (List UInt8)
 | []=>[]
 | x::r=>ZC x (SP r)
theorem Ip (x:List UInt8):∀l:List (List UInt8),(ZC x l).Perm (x::l)
 | []=>.refl _
 | y::r=>by
  unfold ZC
  split
  ·exact((Ip x r).cons y).trans (List.Perm.swap x y r)
  ·exact .refl _
theorem FR:∀l:List (List UInt8),(SP l).Perm l
 | []=>.refl _
 | x::r=>(Ip x _).trans ((FR r).cons x)
theorem TC (x:List UInt8):∀l:List (List UInt8),l.Pairwise (· <= ·)->(ZC x l).Pairwise (· <= ·)
 | [],_=>List.pairwise_singleton _ _
 | y::r,h=>by
  unfold ZC
  obtain⟨E,J⟩:=AhU.1 h
  split
  ·rename_i e
   refine AhU.2 ⟨fun z u=>?_,TC x r J⟩
   rcases AhO.1 ((Ip x r).mem_iff.1 u) with rfl|u
   ·exact List.le_of_lt e
   ·exact E z u
  ·rename_i e
   have e:x<=y:=List.not_lt.1 e
   refine AhU.2 ⟨fun z u=>?_,h⟩
   rcases AhO.1 u with rfl|u
   ·exact e
   ·exact List.le_trans e (E z u)
theorem SO:∀l:List (List UInt8),(SP l).Pairwise (· <= ·)
 | []=>.nil
 | x::r=>TC x _ (SO r)
theorem Rm (l:List (List UInt8)):l.mergeSort leB=SP l:=by
 have E:∀a b c:List UInt8,leB a b=true->leB b c=true->leB a c=true:=fun a b c z u=>by simp only[leB,AhC]at *;exact List.le_trans z u
 have to:∀a b:List UInt8,(leB a b||leB b a)=true:=fun a b=>by simp only[leB,AiI,AhC];exact List.le_total a b
 refine List.Perm.eq_of_pairwise (le:=(· <= ·)) (fun a b _ _ z u=>List.le_antisymm z u) ?_ (SO l) ((List.mergeSort_perm l _).trans (FR l).symm)
 exact(List.pairwise_mergeSort E to l).imp fun h=>by simpa[leB]using h
theorem AeT (x y:List UInt8):ltL (bnL x) (bnL y)=decide (x<y):=by
 unfold bnL
 rw[LU,Go.Proofs.bytesLess_eq]
theorem TB (x:List UInt8):∀l:List (List UInt8),insL (bnL x) (l.map bnL)=(ZC x l).map bnL
 | []=>rfl
 | y::r=>by
  rw[AhV]
  unfold insL ZC
  rw[AeT]
  by_cases h:y<x
  ·rw[AhA h,Ahv h,AhV,<-TB x r]
  ·rw[AhB h,Aht h]
   rfl
theorem Nv:∀l:List (List UInt8),AaB (l.map bnL)=(SP l).map bnL
 | []=>rfl
 | x::r=>by
  rw[AhV]
  unfold AaB SP
  rw[Nv r,TB]
theorem Tp:∀ {l:List (List UInt8)},nodL (l.map bnL)=true->l.Nodup
 | [],_=>.nil
 | x::r,h=>by
  rw[AhV]at h
  unfold nodL at h
  rw[Ahs,Aia,List.any_eq_false]at h
  refine List.nodup_cons.2 ⟨fun u=>?_,Tp h.2⟩
  have:=h.1 (bnL x) (AiN u)
  rw[Iz]at this
  simp at this
theorem Tz {w:World}{S:Nat->Prop}{ρ:Nat->Nat}{H:Hp}:∀ {es:List (I×V)} {ents:List MapEntry} {z:List (List Nat)},Ents w S ρ H es ents->kyS es=some z -> ∃u:List (List UInt8),z=u.map bnL/\ents.map (·.key)=u.map encStr
 | [],[],z,_,h=>by
  cases h
  exact⟨[],rfl,rfl⟩
 | (k,x)::r,e::t,z,.cons hx ht,h=>by
  unfold kyS at h
  split at h
  ·rename_i l
   simp only[Ahn,Aho]at h
   obtain⟨m,U,rfl⟩:=h
   obtain⟨u,rfl,J⟩:=Tz ht U
   obtain⟨E,_⟩:=hx
   generalize N:e.key=c at E
   cases E with
   | s y _ Q =>
    refine⟨y.data.toList::u,by rw[<-Q];rfl,?_⟩
    rw[AhV,AhV,J,N]
  ·cases h
set_option maxHeartbeats 1000000 in
theorem AbH {f g:Nat}(hD:drawM=false)(hw:Aar P f g){sh:Nat->Bool}{gl:Nat->Option (List I)}(hen:Hq P f)(hsh:sh f=true):PrimOk P gl sh f (kyX g) where
 shared:=hsh
 enters:=hen
 ok:=by
  intro call vs H v H' _ z w S ρ β B W N hG hv
  unfold kyX at z
  split at z
  ·rename_i f' r ver
   simp only[Ag,Ahn,AhL]at z
   obtain⟨rfl,cs,J,z⟩:=z
   split at z
   ·rename_i q
    simp only[Ahn,AU]at z
    obtain⟨row,hq,z⟩:=z
    split at z
    ·rename_i es fz
     simp only[Ag,Ahn,Aho,Ahp,Ahs,Aid]at z
     obtain⟨ks,hks,⟨hnd,hkl,hka⟩,rfl,rfl⟩:=z
     obtain⟨a,ha,h1⟩:∃a,W.toList=[a]/\RepV w S ρ H (.fn f' [.pt r ver 0 0]) a:=by
      generalize W.toList=m at hv
      cases hv with
      | cons h1 t =>
       cases t
       exact⟨_,rfl,RepX.toV rfl h1⟩
     obtain⟨_,cap,rfl,hcap⟩:=h1.fnL
     obtain⟨cp,ct,hc0,hcp,E⟩:=RepL.inv_cons (x:=V.pt r ver 0 0) (xs:=[]) hcap
     have E:=E.inv_nil
     subst E
     have hce:cap=#[cp]:=by
      apply Array.ext'
      rw[hc0]
     subst hce
     have hcs2:readA ⟨B,H⟩ 1 (.pt r ver 0 0)=some [.mp q]:=J
     obtain⟨b0,off0,cells,hx,hlen,hR,Q,_⟩:=FZ N (RepX.ofV hcp) hcs2
     subst hx
     have hoff:off0=0/\b0<w.heap.size:=by
      have hlt0:∃u,cells[0]? = some u:=by
       cases cells with
       | nil=>cases hlen
       | cons u t=>exact⟨u,rfl⟩
      obtain⟨u,hu⟩:=hlt0
      have hcu:=Q 0 u hu
      refine⟨?_,?_⟩
      ·cases hcp with
       | pt _ _ _ _ ty esz es' base fz' p a0 h2 hx hb =>
        unfold readA at J
        simp only[Ahn,AU]at J
        obtain⟨row',U,J⟩:=J
        rw[a0]at U
        cases U
        simp only[Ag,Ahs,Aid]at J
        obtain⟨b1,hb1,_⟩:=hb J.1.1
        cases hb1
        simp
      ·unfold World.cell? at hcu
       cases hh:w.heap[b0]? with
       | none=>simp[hh]at hcu
       | some o=>exact(AhY.1 hh).1
     obtain⟨rfl,hb0⟩:=hoff
     obtain⟨cm,ct,rfl,hcm,E⟩:=RepL.inv_cons (x:=V.mp q) (xs:=[]) hR
     have E:=E.inv_nil
     subst E
     have hcm2:cm=.map (some (ρ q)):=by
      cases hcm
      rfl
     subst hcm2
     have hc1:=Q 0 _ rfl
     obtain⟨ents,clock,hh,hE,hbr⟩:=Ents.ofRow N hq
     obtain⟨bs,rfl,hbk⟩:=Tz hE hks
     have hargs:W=#[.func (.func f') #[] #[.pointer (some ⟨b0,0,none⟩)]]:=by
      apply Array.ext'
      rw[ha]
     subst hargs
     rw[AhD]at hkl
     refine(hw b0 (ρ q) ents clock bs w hb0 hc1 hh hbr hbk (Tp hnd) hkl (fun k hk=>by
      have:=AhE.1 hka _ (AiN hk)
      simpa[bnL]using this)).mono fun e' w' z=>?_
     obtain⟨v,T,rfl,a0,hnil,hb⟩:=z
     have hg:Gw w w' none:=⟨⟨hb.os,hb.tape,hb.output,hb.size,fun k hk _=>hb.block k hk⟩,fun h=>by rw[hD]at h;cases h⟩
     cases bs with
     | nil =>
      obtain⟨k1,k2⟩:=N.grow (S':=S) hg (fun _ h=>h) (fun b h=>.inl h) (fun b h=>AiR (N.lt b h) hb.size)
      rw[hnil.2 rfl]
      exact⟨_,S,ρ,rfl,k1,k2,.m .nls⟩
     | cons Z Y =>
      rcases a0.2 with ⟨e0,_⟩|⟨gb,cap,cur,rfl,hbase,hgb,r1,r2,r3,r4⟩
      ·exact absurd (hnil.1 e0) (by simp)
      have hglt:=(AhY.1 hgb).1
      obtain⟨k1,k2⟩:=N.grow (S':=fun b=>S b\/b=gb) hg (fun _ h=>.inl h) (fun b h=>h.elim .inl fun e=>.inr (by omega)) (fun b h=>h.elim (fun h=>AiR (N.lt b h) hb.size) fun e=>by rw[e];exact hglt)
      refine⟨_,_,ρ,rfl,k1,k2,.m ?_⟩
      have hsl:(AaB ((Z::Y).map bnL)).length=(Z::Y).length:=by
       rw[Nv,AhD,(FR _).length_eq]
      rw[Rm]at r4
      have hes:(AaB ((Z::Y).map bnL)).map (fun l=>[I.s l])=(SP (Z::Y)).map fun k=>[I.s (bnL k)]:=by
       rw[Nv,Aiy]
       rfl
      have hbl:(SP (Z::Y)).length=(Z::Y).length:=(FR _).length_eq
      show RepI w' _ (.sl ((AaB ((Z::Y).map bnL)).map fun l=>[I.s l])) _
      rw[hes]
      have e3:(Z::Y).length=((SP (Z::Y)).map fun k=>[I.s (bnL k)]).length:=by rw[AhD,hbl]
      rw[e3]at r1 r4 ⊢
      refine .sl _ _ cap 1 gb 0 (fun i j=>((SP (Z::Y))[i]?.map encStr).getD undef) r1 r2 (fun e z=>?_) (fun _=>⟨rfl,.inr rfl⟩) ⟨_,rfl⟩ (fun i e j x hi hj=>?_) (fun i e j x hi hj=>?_)
      ·obtain⟨k,_,rfl⟩:=AhP.1 z
       rfl
      ·rw[AhN,AhW]at hi
       obtain⟨k,hk,rfl⟩:=hi
       have hj0:j=0:=by
        cases j with
        | zero=>rfl
        | succ j=>simp at hj
       subst hj0
       have hilt:=(Ahq.1 hk).1
       have hcur:cur.toList[i]? = some (encStr k):=by
        have:(cur.toList.take (((SP (Z::Y)).map fun k=>[I.s (bnL k)]).length*1))[i]? = some (encStr k):=by rw[r4,AhN,hk];rfl
        rw[AhX,Ahv (by rw[AhD];omega)]at this
        exact this
       rw[hk]
       simp only[World.cell?,hgb]
       simpa using hcur
      ·rw[AhN,AhW]at hi
       obtain⟨k,hk,rfl⟩:=hi
       have hj0:j=0:=by
        cases j with
        | zero=>rfl
        | succ j=>simp at hj
       subst hj0
       simp only[List.getElem?_cons_zero,Aho]at hj
       subst hj
       rw[hk]
       exact .s _ _ (by simp[bnL])
    ·cases z
   ·cases z
  ·cases z
end Go.Mx
