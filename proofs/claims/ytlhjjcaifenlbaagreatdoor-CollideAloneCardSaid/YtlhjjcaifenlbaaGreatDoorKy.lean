/- The primitive of the machine for slices.Sorted of what maps.Keys gave, at maps with strings as keys. -/
import Derived.Test.YtlhjjcaifenlbaaGreatDoorBd
import Derived.Shelf.SlIter.Sorted
import Derived.Sort.Walk0
set_option linter.unusedSimpArgs false
set_option linter.unusedVariables false
set_option linter.unusedSectionVars false
set_option maxRecDepth 100000
set_option linter.unusedVariables false
namespace Go.Mx
open Go.Proofs Go.RowKit Go.Sort
variable {P:Program}
def insL (x:List Nat):List (List Nat)->List (List Nat)
 | []=>[x]
 | y::r=>match ltL y x with
  | true=>y::insL x r
  | false=>x::y::r
def Zg:List (List Nat)->List (List Nat)
 | []=>[]
 | x::r=>insL x (Zg r)
def nodL:List (List Nat)->Bool
 | []=>true
 | x::r=>!(r.any (eqL x))&&nodL r
def kyS:List (I×V)->Option (List (List Nat))
 | []=>some []
 | (k,_)::r=>match k with
  | .s l=>(kyS r).bind fun t=>some (l::t)
  | _=>none
def kyV (ks:List (List Nat)):I:=match ks with
 | []=>.nl 4
 | x::r=>.sl ((Zg (x::r)).map fun l=>[.s l])
def kyX (g:Nat)(_:Bq)(vs:List V)(H:Hp):Option (V×Hp):=match vs with
 | [.fn f [.pt r ver 0 0]]=>gd (Nat.beq f g) ((readA ⟨[],H⟩ 1 (.pt r ver 0 0)).bind fun cs=>match cs with
  | [.mp q]=>(nth H q).bind fun row=>match row with
   | .mp es _=>(kyS es).bind fun ks=>gd (nodL ks&&(Nat.ble ks.length 1000000&&ks.all fun l=>Nat.ble l.length 1000000)) (some (.m (kyV ks),H))
   | _=>none
  | _=>none)
 | _=>none
def YV (P:Program)(f g:Nat):Prop:=∀(Bm b:Nat) (ents:Array MapEntry) (clock:Nat) (ks:List (List UInt8)) (w:World),Bm<w.heap.size->w.cell? ⟨Bm,0,none⟩=some (.map (some b))->w.heap[b]? = some (.map ents clock)->Brn ents clock ->
 ents.toList.map (·.key)=ks.map encStr->ks.Nodup->ks.length<=1000000->(∀k,k∈ks->k.length<=1000000) ->
 Calls P f #[.func (.func g) #[] #[.pointer (some ⟨Bm,0,none⟩)]] w fun e w'=>∃v T,e=.returned v/\w'.ownsRow w.heap.size T 1 v ks.length ((ks.mergeSort leB).map encStr)/\(v=.slice none 0 0↔ks=[])/\Below w.heap.size w w'
theorem Aam {ρ σ:Go.Shelf.Ren}(Lk:SlLaysZ.n10 P ρ)(Ls:SlLaysZ.n6 P σ)(hs:∀m,AnyZ.SortsIn P σ Fence.wide m)(e9:∀(args:Array Value) (w:World),(callFunc (σ.f 9) args).run P w=.ok (.enter (σ.f 9) args) w)(hk:P.underlying (ρ.t 26)=some .string):YV P (σ.f 6) (ρ.f 10):=fun Bm b ents clock ks w hBm hm hh hbr hks hnd hlen hall=>by
 have hsz:ents.size=ks.length:=by
  have:=congrArg List.length hks
  simpa using this
 have hkey:∀x,x∈ents.toList -> ∃k,k∈ks/\x.key=encStr k:=fun x hx=>by
  have:x.key∈ks.map encStr:=by rw[<-hks];exact AjA hx
  obtain⟨k,h1,h2⟩:=AiH.1 this
  exact⟨k,h1,h2.symm⟩
 have hof:∀x,x∈ents.toList -> ∀k,k∈ks->x.key=encStr k->keyOf P (ρ.t 26) x.key=some (.string k):=fun x _ k hk1 e=>by
  rw[e]
  have:=hall k hk1
  have:=WideMaps.keyOf_string_mk hk (s:=⟨k.toArray⟩) (by show k.toArray.size<=maxLen;simp[maxLen];omega)
  simpa using this
 let R:Value->Option (DataW Nat×List MemPlace):=fun _=>some (.nil,[])
 have hrd:∀x,x∈ents.toList -> ∀k,k∈ks->x.key=encStr k->WideElems.rg P (ρ.t 26) R x=(.string k,.nil):=fun x hx k hk1 e=>by
  unfold WideElems.rg WideElems.rd
  rw[hof x hx k hk1 e]
  rfl
 have hown:w.ownsMap P (ρ.t 26) R b ents.size (.map ((ents.toList.map (WideElems.rg P (ρ.t 26) R)).foldr DataW.insert [])):=by
  refine⟨ents,clock,hh,⟨by rw[hsz];simp[maxLen];omega,⟨hbr.1,hbr.2,?_⟩,fun x hx=>?_⟩,Ais _,rfl⟩
  ·rw[hks]
   exact hnd.map _ fun a b hab e=>hab (encStr_inj e)
  ·obtain⟨k,hk1,e⟩:=hkey x hx
   refine⟨(.string k,.nil),?_⟩
   unfold WideElems.rd
   rw[hof x hx k hk1 e]
   rfl
 have hperm:(strKeys (.map ((ents.toList.map (WideElems.rg P (ρ.t 26) R)).foldr DataW.insert []):DataW Nat)).Perm ks:=by
  show (((ents.toList.map (WideElems.rg P (ρ.t 26) R)).foldr DataW.insert []).map fun p=>_root_.Go.strOf p.1).Perm ks
  refine((WideShapes.sorted_perm _).map _).trans ?_
  rw[Ajy]
  have key:∀(l:List MapEntry) (m:List (List UInt8)),l.map (·.key)=m.map encStr->(∀x,x∈l->x∈ents.toList)->(∀k,k∈m->k∈ks)->l.map ((fun p=>_root_.Go.strOf p.1) ∘ WideElems.rg P (ρ.t 26) R)=m:=by
   intro l
   induction l with
   | nil=>intro m h _ _;cases m with
    | nil=>rfl
    | cons=>cases h
   | cons x r ih=>intro m h h1 h2;cases m with
    | nil=>cases h
    | cons k t =>
     simp only[AiT,List.cons.injEq]at h
     rw[AiT,ih t h.2 (fun y hy=>h1 y (AiW _ hy)) (fun y hy=>h2 y (AiW _ hy))]
     have:=hrd x (h1 x (AiM ..)) k (h2 k (AiM ..)) h.1
     simp only[Function.comp,this]
     rfl
  rw[key ents.toList ks hks (fun _ h=>h) (fun _ h=>h)]
 have hD:Maps.size (.map ((ents.toList.map (WideElems.rg P (ρ.t 26) R)).foldr DataW.insert []):DataW Nat)=ks.length:=by
  have:=hperm.length_eq
  simpa[strKeys,Maps.size]using this
 have hseq:=AnyZ.keys_gives Lk Fence.wide 2 Aje rfl (by omega) Bm b ents.size _ w hBm hm hown
 have cS:=AnyZ.sorted_in Ls Fence.wide 5 Aje Aje Aje Aje rfl (by omega) (hs _) e9 (ρ.f 10) #[.pointer (some ⟨Bm,0,none⟩)] Aje (Lk.f10.enters rfl) _ _ (by rw[hD];simp[maxLen];omega) (by rw[hD];omega) w hseq
 refine(callsIn_wide.1 cS).mono fun e w' he=>?_
 obtain⟨v,ss,rfl,hp,hrow,hnil,hb⟩:=he
 have hp:=hp.trans hperm
 have hl:=hp.length_eq
 have e2:ss.mergeSort (fun x y=>decide (x<=y))=ks.mergeSort leB:=mergeSort_of_perm hp
 rw[e2,hl]at hrow
 refine⟨v,_,rfl,hrow,hnil.trans ⟨fun h=>?_,fun h=>?_⟩,hb⟩
 ·subst h
  exact AiP hl.symm
 ·subst h
  exact AiP hl
def bnL (k:List UInt8):List Nat:=k.map UInt8.toNat
def Yn (x:List UInt8):List (List UInt8)->List (List UInt8)
 | []=>[x]
 | y::r=>if y<x then y::Yn x r else x::y::r
def RW:List (List UInt8)->List (List UInt8)
 | []=>[]
 | x::r=>Yn x (RW r)
theorem Ia (x:List UInt8):∀l:List (List UInt8),(Yn x l).Perm (x::l)
 | []=>.refl _
 | y::r=>by
  unfold Yn
  split
  ·exact((Ia x r).cons y).trans (List.Perm.swap x y r)
  ·exact .refl _
theorem FK:∀l:List (List UInt8),(RW l).Perm l
 | []=>.refl _
 | x::r=>(Ia x _).trans ((FK r).cons x)
theorem SN (x:List UInt8):∀l:List (List UInt8),l.Pairwise (· <= ·)->(Yn x l).Pairwise (· <= ·)
 | [],_=>AjM _ _
 | y::r,h=>by
  unfold Yn
  obtain⟨h1,h2⟩:=AiO.1 h
  split
  ·rename_i e
   refine AiO.2 ⟨fun z hz=>?_,SN x r h2⟩
   rcases AiK.1 ((Ia x r).mem_iff.1 hz) with rfl|hz
   ·exact List.le_of_lt e
   ·exact h1 z hz
  ·rename_i e
   have e:x<=y:=List.not_lt.1 e
   refine AiO.2 ⟨fun z hz=>?_,h⟩
   rcases AiK.1 hz with rfl|hz
   ·exact e
   ·exact List.le_trans e (h1 z hz)
theorem RV:∀l:List (List UInt8),(RW l).Pairwise (· <= ·)
 | []=>.nil
 | x::r=>SN x _ (RV r)
theorem Qv (l:List (List UInt8)):l.mergeSort leB=RW l:=by
 have tr:∀a b c:List UInt8,leB a b=true->leB b c=true->leB a c=true:=fun a b c h1 h2=>by simp only[leB,Aix]at *;exact List.le_trans h1 h2
 have to:∀a b:List UInt8,(leB a b||leB b a)=true:=fun a b=>by simp only[leB,AjC,Aix];exact List.le_total a b
 refine List.Perm.eq_of_pairwise (le:=(· <= ·)) (fun a b _ _ h1 h2=>List.le_antisymm h1 h2) ?_ (RV l) ((List.mergeSort_perm l _).trans (FK l).symm)
 exact(List.pairwise_mergeSort tr to l).imp fun h=>by simpa[leB]using h
theorem Aem (x y:List UInt8):ltL (bnL x) (bnL y)=decide (x<y):=by
 unfold bnL
 rw[Lw,Go.Proofs.bytesLess_eq]
theorem SM (x:List UInt8):∀l:List (List UInt8),insL (bnL x) (l.map bnL)=(Yn x l).map bnL
 | []=>rfl
 | y::r=>by
  rw[AiT]
  unfold insL Yn
  rw[Aem]
  by_cases h:y<x
  ·rw[Aiv h,Air h,AiT,<-SM x r]
  ·rw[AiE h,Aiq h]
   rfl
theorem MR:∀l:List (List UInt8),Zg (l.map bnL)=(RW l).map bnL
 | []=>rfl
 | x::r=>by
  rw[AiT]
  unfold Zg RW
  rw[MR r,SM]
theorem SA:∀ {l:List (List UInt8)},nodL (l.map bnL)=true->l.Nodup
 | [],_=>.nil
 | x::r,h=>by
  rw[AiT]at h
  unfold nodL at h
  rw[Aio,AiU,List.any_eq_false]at h
  refine List.nodup_cons.2 ⟨fun hm=>?_,SA h.2⟩
  have:=h.1 (bnL x) (AjA hm)
  rw[Il]at this
  simp at this
theorem SK {w:World}{S:Nat->Prop}{ρ:Nat->Nat}{H:Hp}:∀ {es:List (I×V)} {ents:List MapEntry} {ks:List (List Nat)},Ents w S ρ H es ents->kyS es=some ks -> ∃bs:List (List UInt8),ks=bs.map bnL/\ents.map (·.key)=bs.map encStr
 | [],[],ks,_,h=>by
  cases h
  exact⟨[],rfl,rfl⟩
 | (k,x)::r,e::t,ks,.cons hx ht,h=>by
  unfold kyS at h
  split at h
  ·rename_i l
   simp only[Aik,Ail]at h
   obtain⟨m,hm,rfl⟩:=h
   obtain⟨bs,rfl,hb⟩:=SK ht hm
   obtain⟨h1,_⟩:=hx
   generalize hc:e.key=c at h1
   cases h1 with
   | s y _ hy =>
    refine⟨y.data.toList::bs,by rw[<-hy];rfl,?_⟩
    rw[AiT,AiT,hb,hc]
  ·cases h
set_option maxHeartbeats 1000000 in
theorem Aan {f g:Nat}(hD:drawM=false)(hw:YV P f g){sh:Nat->Bool}{gl:Nat->Option (List I)}(hen:Ha P f)(hsh:sh f=true):PrimOk P gl sh f (kyX g) where
 shared:=hsh
 enters:=hen
 ok:=by
  intro call vs H v H' _ he w S ρ β B args hok hG hv
  unfold kyX at he
  split at he
  ·rename_i f' r ver
   simp only[Ae,Aik,AiF]at he
   obtain⟨rfl,cs,hcs,he⟩:=he
   split at he
   ·rename_i q
    simp only[Aik,AT]at he
    obtain⟨row,hq,he⟩:=he
    split at he
    ·rename_i es fz
     simp only[Ae,Aik,Ail,Aim,Aio,Ajb]at he
     obtain⟨ks,hks,⟨hnd,hkl,hka⟩,rfl,rfl⟩:=he
     obtain⟨a,ha,h1⟩:∃a,args.toList=[a]/\RepV w S ρ H (.fn f' [.pt r ver 0 0]) a:=by
      generalize args.toList=m at hv
      cases hv with
      | cons h1 t =>
       cases t
       exact⟨_,rfl,RepX.toV rfl h1⟩
     obtain⟨_,cap,rfl,hcap⟩:=h1.fnL
     obtain⟨cp,ct,hc0,hcp,hct⟩:=RepL.inv_cons (x:=V.pt r ver 0 0) (xs:=[]) hcap
     have hct:=hct.inv_nil
     subst hct
     have hce:cap=#[cp]:=by
      apply Array.ext'
      rw[hc0]
     subst hce
     have hcs2:readA ⟨B,H⟩ 1 (.pt r ver 0 0)=some [.mp q]:=hcs
     obtain⟨b0,off0,cells,hx,hlen,hR,hcell,_⟩:=FT hok (RepX.ofV hcp) hcs2
     subst hx
     have hoff:off0=0/\b0<w.heap.size:=by
      have hlt0:∃u,cells[0]? = some u:=by
       cases cells with
       | nil=>cases hlen
       | cons u t=>exact⟨u,rfl⟩
      obtain⟨u,hu⟩:=hlt0
      have hcu:=hcell 0 u hu
      refine⟨?_,?_⟩
      ·cases hcp with
       | pt _ _ _ _ ty esz es' base fz' p hrow h2 hx hb =>
        unfold readA at hcs
        simp only[Aik,AT]at hcs
        obtain⟨row',hrow',hcs⟩:=hcs
        rw[hrow]at hrow'
        cases hrow'
        simp only[Ae,Aio,Ajb]at hcs
        obtain⟨b1,hb1,_⟩:=hb hcs.1.1
        cases hb1
        simp
      ·unfold World.cell? at hcu
       cases hh:w.heap[b0]? with
       | none=>simp[hh]at hcu
       | some o=>exact(AiS.1 hh).1
     obtain⟨rfl,hb0⟩:=hoff
     obtain⟨cm,ct,rfl,hcm,hct⟩:=RepL.inv_cons (x:=V.mp q) (xs:=[]) hR
     have hct:=hct.inv_nil
     subst hct
     have hcm2:cm=.map (some (ρ q)):=by
      cases hcm
      rfl
     subst hcm2
     have hc1:=hcell 0 _ rfl
     obtain⟨ents,clock,hh,hE,hbr⟩:=Ents.ofRow hok hq
     obtain⟨bs,rfl,hbk⟩:=SK hE hks
     have hargs:args=#[.func (.func f') #[] #[.pointer (some ⟨b0,0,none⟩)]]:=by
      apply Array.ext'
      rw[ha]
     subst hargs
     rw[AiB]at hkl
     refine(hw b0 (ρ q) ents clock bs w hb0 hc1 hh hbr hbk (SA hnd) hkl (fun k hk=>by
      have:=Aiw.1 hka _ (AjA hk)
      simpa[bnL]using this)).mono fun e' w' he=>?_
     obtain⟨v,T,rfl,hrow,hnil,hb⟩:=he
     have hg:Gw w w' none:=⟨⟨hb.os,hb.tape,hb.output,hb.size,fun k hk _=>hb.block k hk⟩,fun h=>by rw[hD]at h;cases h⟩
     cases bs with
     | nil =>
      obtain⟨k1,k2⟩:=hok.grow (S':=S) hg (fun _ h=>h) (fun b h=>.inl h) (fun b h=>AjK (hok.lt b h) hb.size)
      rw[hnil.2 rfl]
      exact⟨_,S,ρ,rfl,k1,k2,.m .nls⟩
     | cons k0 kt =>
      rcases hrow.2 with ⟨e0,_⟩|⟨gb,cap,cur,rfl,hbase,hgb,r1,r2,r3,r4⟩
      ·exact absurd (hnil.1 e0) (by simp)
      have hglt:=(AiS.1 hgb).1
      obtain⟨k1,k2⟩:=hok.grow (S':=fun b=>S b\/b=gb) hg (fun _ h=>.inl h) (fun b h=>h.elim .inl fun e=>.inr (by omega)) (fun b h=>h.elim (fun h=>AjK (hok.lt b h) hb.size) fun e=>by rw[e];exact hglt)
      refine⟨_,_,ρ,rfl,k1,k2,.m ?_⟩
      have hsl:(Zg ((k0::kt).map bnL)).length=(k0::kt).length:=by
       rw[MR,AiB,(FK _).length_eq]
      rw[Qv]at r4
      have hes:(Zg ((k0::kt).map bnL)).map (fun l=>[I.s l])=(RW (k0::kt)).map fun k=>[I.s (bnL k)]:=by
       rw[MR,Ajy]
       rfl
      have hbl:(RW (k0::kt)).length=(k0::kt).length:=(FK _).length_eq
      show RepI w' _ (.sl ((Zg ((k0::kt).map bnL)).map fun l=>[I.s l])) _
      rw[hes]
      have e3:(k0::kt).length=((RW (k0::kt)).map fun k=>[I.s (bnL k)]).length:=by rw[AiB,hbl]
      rw[e3]at r1 r4 ⊢
      refine .sl _ _ cap 1 gb 0 (fun i j=>((RW (k0::kt))[i]?.map encStr).getD undef) r1 r2 (fun e he=>?_) (fun _=>⟨rfl,.inr rfl⟩) ⟨_,rfl⟩ (fun i e j x hi hj=>?_) (fun i e j x hi hj=>?_)
      ·obtain⟨k,_,rfl⟩:=AiH.1 he
       rfl
      ·rw[AiL,AiZ]at hi
       obtain⟨k,hk,rfl⟩:=hi
       have hj0:j=0:=by
        cases j with
        | zero=>rfl
        | succ j=>simp at hj
       subst hj0
       have hilt:=(Ain.1 hk).1
       have hcur:cur.toList[i]? = some (encStr k):=by
        have:(cur.toList.take (((RW (k0::kt)).map fun k=>[I.s (bnL k)]).length*1))[i]? = some (encStr k):=by rw[r4,AiL,hk];rfl
        rw[AiR,Air (by rw[AiB];omega)]at this
        exact this
       rw[hk]
       simp only[World.cell?,hgb]
       simpa using hcur
      ·rw[AiL,AiZ]at hi
       obtain⟨k,hk,rfl⟩:=hi
       have hj0:j=0:=by
        cases j with
        | zero=>rfl
        | succ j=>simp at hj
       subst hj0
       simp only[List.getElem?_cons_zero,Ail]at hj
       subst hj
       rw[hk]
       exact .s _ _ (by simp[bnL])
    ·cases he
   ·cases he
  ·cases he
end Go.Mx
