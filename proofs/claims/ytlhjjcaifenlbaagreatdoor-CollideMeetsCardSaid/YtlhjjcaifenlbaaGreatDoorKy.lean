/- The primitive of the machine for slices.Sorted of what maps.Keys gave, at maps with strings as keys. -/
import Derived.Test.YtlhjjcaifenlbaaGreatDoorBd
import Derived.Shelf.SlIter.Sorted
import Derived.Sort.Walk0
set_option linter.unusedSimpArgs false
set_option linter.unusedVariables false
set_option linter.unusedSectionVars false
set_option maxRecDepth 100000
set_option linter.unusedVariables false
namespace Go.Mx
open Go.Proofs Go.RowKit Go.Sort
variable {P:Program}
def insL (x:List Nat):List (List Nat)->List (List Nat)
 | []=>[x]
 | y::r=>match ltL y x with
  | true=>y::insL x r
  | false=>x::y::r
def Aaw:List (List Nat)->List (List Nat)
 | []=>[]
 | x::r=>insL x (Aaw r)
def nodL:List (List Nat)->Bool
 | []=>true
 | x::r=>!(r.any (eqL x))&&nodL r
def kyS:List (I×V)->Option (List (List Nat))
 | []=>some []
 | (k,_)::r=>match k with
  | .s l=>(kyS r).bind fun t=>some (l::t)
  | _=>none
def kyV (ks:List (List Nat)):I:=match ks with
 | []=>.nl 4
 | x::r=>.sl ((Aaw (x::r)).map fun l=>[.s l])
def kyX (g:Nat)(_:Bt)(vs:List V)(H:Hp):Option (V×Hp):=match vs with
 | [.fn f [.pt r ver 0 0]]=>gd (Nat.beq f g) ((readA ⟨[],H⟩ 1 (.pt r ver 0 0)).bind fun cs=>match cs with
  | [.mp q]=>(nth H q).bind fun row=>match row with
   | .mp es _=>(kyS es).bind fun ks=>gd (nodL ks&&(Nat.ble ks.length 1000000&&ks.all fun l=>Nat.ble l.length 1000000)) (some (.m (kyV ks),H))
   | _=>none
  | _=>none)
 | _=>none
def Aam (P:Program)(f g:Nat):Prop:=∀(Bm b:Nat) (ents:Array MapEntry) (clock:Nat) (ks:List (List UInt8)) (w:World),Bm<w.heap.size->w.cell? ⟨Bm,0,none⟩=some (.map (some b))->w.heap[b]? = some (.map ents clock)->Brn ents clock ->
 ents.toList.map (·.key)=ks.map encStr->ks.Nodup->ks.length<=1000000->(∀k,k∈ks->k.length<=1000000) ->
 Calls P f #[.func (.func g) #[] #[.pointer (some ⟨Bm,0,none⟩)]] w fun e w'=>∃v T,e=.returned v/\w'.ownsRow w.heap.size T 1 v ks.length ((ks.mergeSort leB).map encStr)/\(v=.slice none 0 0↔ks=[])/\Below w.heap.size w w'
theorem AbB {ρ Z:Go.Shelf.Ren}(Lk:SlLaysZ.n10 P ρ)(Ls:SlLaysZ.n6 P Z)(hs:∀m,AnyZ.SortsIn P Z Fence.wide m)(e9:∀(args:Array Value) (w:World),(callFunc (Z.f 9) args).run P w=.ok (.enter (Z.f 9) args) w)(hk:P.underlying (ρ.t 26)=some .string):Aam P (Z.f 6) (ρ.f 10):=fun Bm b u U z w hBm hm hh Y N hnd hlen a0=>by
 have hsz:u.size=z.length:=by
  have:=AiE List.length N
  simpa using this
 have a4:∀x,x∈u.toList -> ∃k,k∈z/\x.key=encStr k:=fun x W=>by
  have:x.key∈z.map encStr:=by rw[<-N];exact AiD W
  obtain⟨k,h1,h2⟩:=AhE.1 this
  exact⟨k,h1,h2.symm⟩
 have a3:∀x,x∈u.toList -> ∀k,k∈z->x.key=encStr k->keyOf P (ρ.t 26) x.key=some (.string k):=fun x _ k J e=>by
  rw[e]
  have:=a0 k J
  have:=WideMaps.keyOf_string_mk hk (s:=⟨k.toArray⟩) (by show k.toArray.size<=maxLen;simp[maxLen];omega)
  simpa using this
 let R:Value->Option (DataW Nat×List MemPlace):=fun _=>some (.nil,[])
 have hrd:∀x,x∈u.toList -> ∀k,k∈z->x.key=encStr k->WideElems.rg P (ρ.t 26) R x=(.string k,.nil):=fun x W k J e=>by
  unfold WideElems.rg WideElems.rd
  rw[a3 x W k J e]
  rfl
 have a5:w.ownsMap P (ρ.t 26) R b u.size (.map ((u.toList.map (WideElems.rg P (ρ.t 26) R)).foldr DataW.insert [])):=by
  refine⟨u,U,hh,⟨by rw[hsz];simp[maxLen];omega,⟨Y.1,Y.2,?_⟩,fun x W=>?_⟩,Ahk _,rfl⟩
  ·rw[N]
   exact hnd.map _ fun a b hab e=>hab (encStr_inj e)
  ·obtain⟨k,J,e⟩:=a4 x W
   refine⟨(.string k,.nil),?_⟩
   unfold WideElems.rd
   rw[a3 x W k J e]
   rfl
 have E:(strKeys (.map ((u.toList.map (WideElems.rg P (ρ.t 26) R)).foldr DataW.insert []):DataW Nat)).Perm z:=by
  show (((u.toList.map (WideElems.rg P (ρ.t 26) R)).foldr DataW.insert []).map fun p=>_root_.Go.strOf p.1).Perm z
  refine((WideShapes.sorted_perm _).map _).trans ?_
  rw[Aim]
  have key:∀(l:List MapEntry) (m:List (List UInt8)),l.map (·.key)=m.map encStr->(∀x,x∈l->x∈u.toList)->(∀k,k∈m->k∈z)->l.map ((fun p=>_root_.Go.strOf p.1) ∘ WideElems.rg P (ρ.t 26) R)=m:=by
   intro l
   induction l with
   | nil=>intro m h _ _;cases m with
    | nil=>rfl
    | cons=>cases h
   | cons x r ih=>intro m h h1 h2;cases m with
    | nil=>cases h
    | cons k t =>
     simp only[AhL,List.cons.injEq]at h
     rw[AhL,ih t h.2 (fun y hy=>h1 y (AhZ _ hy)) (fun y hy=>h2 y (AhZ _ hy))]
     have:=hrd x (h1 x (AhG ..)) k (h2 k (AhG ..)) h.1
     simp only[Function.comp,this]
     rfl
  rw[key u.toList z N (fun _ h=>h) (fun _ h=>h)]
 have hD:Maps.size (.map ((u.toList.map (WideElems.rg P (ρ.t 26) R)).foldr DataW.insert []):DataW Nat)=z.length:=by
  have:=E.length_eq
  simpa[strKeys,Maps.size]using this
 have a2:=AnyZ.keys_gives Lk Fence.wide 2 AhY rfl (by omega) Bm b u.size _ w hBm hm a5
 have cS:=AnyZ.sorted_in Ls Fence.wide 5 AhY AhY AhY AhY rfl (by omega) (hs _) e9 (ρ.f 10) #[.pointer (some ⟨Bm,0,none⟩)] AhY (Lk.f10.enters rfl) _ _ (by rw[hD];simp[maxLen];omega) (by rw[hD];omega) w a2
 refine(callsIn_wide.1 cS).mono fun e w' he=>?_
 obtain⟨v,ss,rfl,hp,Q,a1,hb⟩:=he
 have hp:=hp.trans E
 have hl:=hp.length_eq
 have e2:ss.mergeSort (fun x y=>decide (x<=y))=z.mergeSort leB:=mergeSort_of_perm hp
 rw[e2,hl]at Q
 refine⟨v,_,rfl,Q,a1.trans ⟨fun h=>?_,fun h=>?_⟩,hb⟩
 ·subst h
  exact AhJ hl.symm
 ·subst h
  exact AhJ hl
def bnL (k:List UInt8):List Nat:=k.map UInt8.toNat
def ZD (x:List UInt8):List (List UInt8)->List (List UInt8)
 | []=>[x]
 | y::r=>if y<x then y::ZD x r else x::y::r
def SO:List (List UInt8)->List (List UInt8)
 | []=>[]
 | x::r=>ZD x (SO r)
theorem Im (x:List UInt8):∀l:List (List UInt8),(ZD x l).Perm (x::l)
 | []=>.refl _
 | y::r=>by
  unfold ZD
  split
  ·exact((Im x r).cons y).trans (List.Perm.swap x y r)
  ·exact .refl _
theorem FP:∀l:List (List UInt8),(SO l).Perm l
 | []=>.refl _
 | x::r=>(Im x _).trans ((FP r).cons x)
theorem TB (x:List UInt8):∀l:List (List UInt8),l.Pairwise (· <= ·)->(ZD x l).Pairwise (· <= ·)
 | [],_=>List.pairwise_singleton _ _
 | y::r,h=>by
  unfold ZD
  obtain⟨E,J⟩:=AhK.1 h
  split
  ·rename_i e
   refine AhK.2 ⟨fun z u=>?_,TB x r J⟩
   rcases AhF.1 ((Im x r).mem_iff.1 u) with rfl|u
   ·exact List.le_of_lt e
   ·exact E z u
  ·rename_i e
   have e:x<=y:=List.not_lt.1 e
   refine AhK.2 ⟨fun z u=>?_,h⟩
   rcases AhF.1 u with rfl|u
   ·exact e
   ·exact List.le_trans e (E z u)
theorem SN:∀l:List (List UInt8),(SO l).Pairwise (· <= ·)
 | []=>.nil
 | x::r=>TB x _ (SN r)
theorem Ro (l:List (List UInt8)):l.mergeSort leB=SO l:=by
 have E:∀a b c:List UInt8,leB a b=true->leB b c=true->leB a c=true:=fun a b c z u=>by simp only[leB,Aht]at *;exact List.le_trans z u
 have to:∀a b:List UInt8,(leB a b||leB b a)=true:=fun a b=>by simp only[leB,Aix,Aht];exact List.le_total a b
 refine List.Perm.eq_of_pairwise (le:=(· <= ·)) (fun a b _ _ z u=>List.le_antisymm z u) ?_ (SN l) ((List.mergeSort_perm l _).trans (FP l).symm)
 exact(List.pairwise_mergeSort E to l).imp fun h=>by simpa[leB]using h
theorem AeN (x y:List UInt8):ltL (bnL x) (bnL y)=decide (x<y):=by
 unfold bnL
 rw[Md,Go.Proofs.bytesLess_eq]
theorem TA (x:List UInt8):∀l:List (List UInt8),insL (bnL x) (l.map bnL)=(ZD x l).map bnL
 | []=>rfl
 | y::r=>by
  rw[AhL]
  unfold insL ZD
  rw[AeN]
  by_cases h:y<x
  ·rw[Ahq h,Ahl h,AhL,<-TA x r]
  ·rw[Ahs h,Ahj h]
   rfl
theorem Ny:∀l:List (List UInt8),Aaw (l.map bnL)=(SO l).map bnL
 | []=>rfl
 | x::r=>by
  rw[AhL]
  unfold Aaw SO
  rw[Ny r,TA]
theorem To:∀ {l:List (List UInt8)},nodL (l.map bnL)=true->l.Nodup
 | [],_=>.nil
 | x::r,h=>by
  rw[AhL]at h
  unfold nodL at h
  rw[Ahi,AhQ,List.any_eq_false]at h
  refine List.nodup_cons.2 ⟨fun u=>?_,To h.2⟩
  have:=h.1 (bnL x) (AiD u)
  rw[Iw]at this
  simp at this
theorem Ty {w:World}{S:Nat->Prop}{ρ:Nat->Nat}{H:Hp}:∀ {es:List (I×V)} {ents:List MapEntry} {z:List (List Nat)},Ents w S ρ H es ents->kyS es=some z -> ∃u:List (List UInt8),z=u.map bnL/\ents.map (·.key)=u.map encStr
 | [],[],z,_,h=>by
  cases h
  exact⟨[],rfl,rfl⟩
 | (k,x)::r,e::t,z,.cons hx ht,h=>by
  unfold kyS at h
  split at h
  ·rename_i l
   simp only[Ahd,Ahe]at h
   obtain⟨m,U,rfl⟩:=h
   obtain⟨u,rfl,N⟩:=Ty ht U
   obtain⟨E,_⟩:=hx
   generalize Q:e.key=c at E
   cases E with
   | s y _ J =>
    refine⟨y.data.toList::u,by rw[<-J];rfl,?_⟩
    rw[AhL,AhL,N,Q]
  ·cases h
set_option maxHeartbeats 1000000 in
theorem AbC {f g:Nat}(hD:drawM=false)(hw:Aam P f g){sh:Nat->Bool}{gl:Nat->Option (List I)}(hen:Hm P f)(hsh:sh f=true):PrimOk P gl sh f (kyX g) where
 shared:=hsh
 enters:=hen
 ok:=by
  intro call vs H v H' _ z w S ρ β B W N hG hv
  unfold kyX at z
  split at z
  ·rename_i f' r ver
   simp only[Ag,Ahd,AhB]at z
   obtain⟨rfl,cs,E,z⟩:=z
   split at z
   ·rename_i q
    simp only[Ahd,AT]at z
    obtain⟨row,hq,z⟩:=z
    split at z
    ·rename_i es fz
     simp only[Ag,Ahd,Ahe,Ahf,Ahi,AhS]at z
     obtain⟨ks,hks,⟨hnd,hkl,hka⟩,rfl,rfl⟩:=z
     obtain⟨a,ha,h1⟩:∃a,W.toList=[a]/\RepV w S ρ H (.fn f' [.pt r ver 0 0]) a:=by
      generalize W.toList=m at hv
      cases hv with
      | cons h1 t =>
       cases t
       exact⟨_,rfl,RepX.toV rfl h1⟩
     obtain⟨_,cap,rfl,hcap⟩:=h1.fnL
     obtain⟨cp,ct,hc0,hcp,J⟩:=RepL.inv_cons (x:=V.pt r ver 0 0) (xs:=[]) hcap
     have J:=J.inv_nil
     subst J
     have hce:cap=#[cp]:=by
      apply Array.ext'
      rw[hc0]
     subst hce
     have hcs2:readA ⟨B,H⟩ 1 (.pt r ver 0 0)=some [.mp q]:=E
     obtain⟨b0,off0,cells,hx,hlen,hR,Z,_⟩:=FX N (RepX.ofV hcp) hcs2
     subst hx
     have hoff:off0=0/\b0<w.heap.size:=by
      have hlt0:∃u,cells[0]? = some u:=by
       cases cells with
       | nil=>cases hlen
       | cons u t=>exact⟨u,rfl⟩
      obtain⟨u,hu⟩:=hlt0
      have hcu:=Z 0 u hu
      refine⟨?_,?_⟩
      ·cases hcp with
       | pt _ _ _ _ ty esz es' base fz' p U h2 hx hb =>
        unfold readA at E
        simp only[Ahd,AT]at E
        obtain⟨row',Y,E⟩:=E
        rw[U]at Y
        cases Y
        simp only[Ag,Ahi,AhS]at E
        obtain⟨b1,hb1,_⟩:=hb E.1.1
        cases hb1
        simp
      ·unfold World.cell? at hcu
       cases hh:w.heap[b0]? with
       | none=>simp[hh]at hcu
       | some o=>exact(AhO.1 hh).1
     obtain⟨rfl,hb0⟩:=hoff
     obtain⟨cm,ct,rfl,hcm,J⟩:=RepL.inv_cons (x:=V.mp q) (xs:=[]) hR
     have J:=J.inv_nil
     subst J
     have hcm2:cm=.map (some (ρ q)):=by
      cases hcm
      rfl
     subst hcm2
     have hc1:=Z 0 _ rfl
     obtain⟨ents,clock,hh,hE,hbr⟩:=Ents.ofRow N hq
     obtain⟨bs,rfl,hbk⟩:=Ty hE hks
     have hargs:W=#[.func (.func f') #[] #[.pointer (some ⟨b0,0,none⟩)]]:=by
      apply Array.ext'
      rw[ha]
     subst hargs
     rw[Ahr]at hkl
     refine(hw b0 (ρ q) ents clock bs w hb0 hc1 hh hbr hbk (To hnd) hkl (fun k hk=>by
      have:=Ahu.1 hka _ (AiD hk)
      simpa[bnL]using this)).mono fun e' w' z=>?_
     obtain⟨v,T,rfl,U,hnil,hb⟩:=z
     have hg:Gw w w' none:=⟨⟨hb.os,hb.tape,hb.output,hb.size,fun k hk _=>hb.block k hk⟩,fun h=>by rw[hD]at h;cases h⟩
     cases bs with
     | nil =>
      obtain⟨k1,k2⟩:=N.grow (S':=S) hg (fun _ h=>h) (fun b h=>.inl h) (fun b h=>AiH (N.lt b h) hb.size)
      rw[hnil.2 rfl]
      exact⟨_,S,ρ,rfl,k1,k2,.m .nls⟩
     | cons k0 Q =>
      rcases U.2 with ⟨e0,_⟩|⟨gb,cap,cur,rfl,hbase,hgb,r1,r2,r3,r4⟩
      ·exact absurd (hnil.1 e0) (by simp)
      have hglt:=(AhO.1 hgb).1
      obtain⟨k1,k2⟩:=N.grow (S':=fun b=>S b\/b=gb) hg (fun _ h=>.inl h) (fun b h=>h.elim .inl fun e=>.inr (by omega)) (fun b h=>h.elim (fun h=>AiH (N.lt b h) hb.size) fun e=>by rw[e];exact hglt)
      refine⟨_,_,ρ,rfl,k1,k2,.m ?_⟩
      have hsl:(Aaw ((k0::Q).map bnL)).length=(k0::Q).length:=by
       rw[Ny,Ahr,(FP _).length_eq]
      rw[Ro]at r4
      have hes:(Aaw ((k0::Q).map bnL)).map (fun l=>[I.s l])=(SO (k0::Q)).map fun k=>[I.s (bnL k)]:=by
       rw[Ny,Aim]
       rfl
      have hbl:(SO (k0::Q)).length=(k0::Q).length:=(FP _).length_eq
      show RepI w' _ (.sl ((Aaw ((k0::Q).map bnL)).map fun l=>[I.s l])) _
      rw[hes]
      have e3:(k0::Q).length=((SO (k0::Q)).map fun k=>[I.s (bnL k)]).length:=by rw[Ahr,hbl]
      rw[e3]at r1 r4 ⊢
      refine .sl _ _ cap 1 gb 0 (fun i j=>((SO (k0::Q))[i]?.map encStr).getD undef) r1 r2 (fun e z=>?_) (fun _=>⟨rfl,.inr rfl⟩) ⟨_,rfl⟩ (fun i e j x hi hj=>?_) (fun i e j x hi hj=>?_)
      ·obtain⟨k,_,rfl⟩:=AhE.1 z
       rfl
      ·rw[AhD,AhM]at hi
       obtain⟨k,hk,rfl⟩:=hi
       have hj0:j=0:=by
        cases j with
        | zero=>rfl
        | succ j=>simp at hj
       subst hj0
       have hilt:=(Ahg.1 hk).1
       have hcur:cur.toList[i]? = some (encStr k):=by
        have:(cur.toList.take (((SO (k0::Q)).map fun k=>[I.s (bnL k)]).length*1))[i]? = some (encStr k):=by rw[r4,AhD,hk];rfl
        rw[AhN,Ahl (by rw[Ahr];omega)]at this
        exact this
       rw[hk]
       simp only[World.cell?,hgb]
       simpa using hcur
      ·rw[AhD,AhM]at hi
       obtain⟨k,hk,rfl⟩:=hi
       have hj0:j=0:=by
        cases j with
        | zero=>rfl
        | succ j=>simp at hj
       subst hj0
       simp only[List.getElem?_cons_zero,Ahe]at hj
       subst hj
       rw[hk]
       exact .s _ _ (by simp[bnL])
    ·cases z
   ·cases z
  ·cases z
end Go.Mx
