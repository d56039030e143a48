/- Soundness of the machine, part 2. Nothing here speaks of a program. -/
import Derived.Test.YtgljapjkjbmicaaGreatDoorBa
import Derived.Laws.IdiomStrings
import Derived.Laws.MakeOwn
import Derived.Lib.UnsafeStr
import Derived.WideKeyRuns
import Derived.MapKept
import Derived.Laws.CopyRow
set_option linter.unusedSimpArgs false
set_option linter.unusedVariables false
set_option linter.unusedSectionVars false
/- Equality, literals of structs, arrays and slices, '[]byte(s)', slice data: each against the model's. -/
namespace Go.Mx
section
variable {P : Program} {w : World} {S : Nat -> Prop} {ρ β : Nat -> Nat} {M : Mem} {H : Hp} {o : Oper} {a : Act} {vs : List V} {v : V}
def OQ (neg : Bool) : BinOp:=match neg with
 | true=>.neq
 | false=>.eql
theorem Il {t : TypeId} {x y : Operand} {c c' : Value} {neg : Bool} {r : Bool} (hx : ∀ k n,c ≠ .int k n) (hx2 : ∀ k p q,c ≠ .complex k p q) (hx3 : ∀ k n,c ≠ .float k n) (hx4 : ∀ s,c ≠ .string s)
  (hg : (eqGuard (OQ neg) t x y c c').run P w = .ok () w) (h : (Op.equal t c c').run P w = .ok r w) :
  (do eqGuard (OQ neg) t x y c c'; binOp (OQ neg) t c c' : Sem Value).run P w = .ok (.bool (xor neg r)) w:=by
 rw [Sem.run_bind,hg,Result.andThen_ok]
 cases neg
 ·have : binOp .eql t c c' = (do pure (.bool (<- Op.equal t c c'))):=by
   unfold binOp
   cases c <;> cases c' <;> first | rfl | (exfalso; first | exact hx _ _ rfl | exact hx2 _ _ _ rfl | exact hx3 _ _ rfl | exact hx4 _ rfl)
  simp only [OQ,this,Sem.run_bind,h,Result.andThen_ok,Sem.run_pure]
  simp
 ·have : binOp .neq t c c' = (do pure (.bool (!(<- Op.equal t c c')))):=by
   unfold binOp
   cases c <;> cases c' <;> first | rfl | (exfalso; first | exact hx _ _ rfl | exact hx2 _ _ _ rfl | exact hx3 _ _ rfl | exact hx4 _ rfl)
  simp only [OQ,this,Sem.run_bind,h,Result.andThen_ok,Sem.run_pure]
  simp
theorem Vp {neg : Bool} {t ty : TypeId} {x y : Operand} (ho : o.op = .binOp (OQ neg) t x y ty) (hu : P.underlying t = some .bool) (hok : Ok w S ρ β M) (hv : All2 (RepX w S ρ β M.H) vs [a.eval x,a.eval y]) (he : Ap (.eqb neg) vs = some v) :
  Outc w S ρ β M (.p (.eqb neg)) v M ((execOp a.eval o).run P w):=by
 cases hv with | cons h t1 =>
 cases t1 with | cons h1 t2 =>
 cases t2
 simp only [Ap] at he
 split at he
 ·rename_i p q
  simp only [vb,AaG] at he
  subst he
  have hx:=BH (RepX.toV rfl h)
  have hy:=BH (RepX.toV rfl h1)
  have hg : (eqGuard (OQ neg) t x y (.bool p) (.bool q)).run P w = .ok () w:=by cases neg <;> simp [eqGuard,OQ]
  have hr:=Il (P:=P) (w:=w) (x:=x) (y:=y) (neg:=neg) (by simp) (by simp) (by simp) (by simp) hg (run_equalIn_bool w _ t p q hu)
  refine .val hok (RepX.ofV (.m (.b (xor neg (p == q))))) ?_
  simp only [execOp,ho,hx,hy]
  rw [Sem.run_bind,hr]
  rfl
 ·cases he
theorem NZ {t : TypeId} {ks : List Nat} (hf : Tc P t = some ks) : BZ P t = some true /\ P.eqGuardType P.depth t = false /\ Cq P 6 t = some ks:=by
 unfold Tc at hf
 split at hf
 ·rename_i hu; simp only [Ah,Abi] at hf; exact ⟨by simp [BZ,hu],hf⟩
 ·rename_i hu; simp only [Ah,Abi] at hf; exact ⟨by simp [BZ,hu],hf⟩
 ·cases hf
theorem Vo {neg : Bool} {ks : List Nat} {t ty : TypeId} {x y : Operand} (ho : o.op = .binOp (OQ neg) t x y ty) (hf : Tc P t = some ks) (hok : Ok w S ρ β M) (hv : All2 (RepX w S ρ β M.H) vs [a.eval x,a.eval y]) (he : Ap (.eqs neg ks) vs = some v) :
  Outc w S ρ β M (.p (.eqs neg ks)) v M ((execOp a.eval o).run P w):=by
 cases hv with | cons h t1 =>
 cases t1 with | cons h1 t2 =>
 cases t2
 simp only [Ap] at he
 split at he
 ·rename_i xs ys
  simp only [vb,AaF,AaG] at he
  obtain ⟨r,hr,rfl⟩:=he
  obtain ⟨cx,hx,lx⟩:=RepV.ofAgI (RepX.toV rfl h)
  obtain ⟨cy,hy,ly⟩:=RepV.ofAgI (RepX.toV rfl h1)
  obtain ⟨g1,g2,g3⟩:=NZ hf
  have hq:=Iy 6 t ks g3 9994 w S (.agg cx) (.agg cy) _ _ xs ys r (.inl ⟨g1,_,rfl,rfl⟩) (.inl ⟨g1,_,rfl,rfl⟩) (.ofL lx) (.ofL ly) hr
  have hg:=run_eqGuard_agg w (OQ neg) t x y cx cy g2
  have hr:=Il (P:=P) (w:=w) (x:=x) (y:=y) (neg:=neg) (by simp) (by simp) (by simp) (by simp) hg hq
  refine .val hok (RepX.ofV (.m (.b (xor neg r)))) ?_
  simp only [execOp,ho,hx,hy]
  rw [Sem.run_bind,hr]
  rfl
 ·cases he
theorem MA : ∀ (xs : List Value) (k off : Nat) (cells : Array Value),off + k + xs.length <= cells.size ->
  ((xs.zipIdx k).foldl (fun cs p=>cs.setIfInBounds (off + p.2) p.1) cells).toList = cells.toList.take (off + k) ++ xs ++ cells.toList.drop (off + k + xs.length)
 | [],k,off,cells,h=>by simp
 | x :: xs,k,off,cells,h=>by
  simp only [AbD] at h
  rw [List.zipIdx_cons,List.foldl_cons,MA xs (k + 1) off _ (by simp; omega)]
  have hlt : off + k < cells.toList.length:=by simp; omega
  simp only [Array.toList_setIfInBounds,AbD]
  have h1 : (cells.toList.set (off + k) x).take (off + (k + 1)) = cells.toList.take (off + k) ++ [x]:=by
   rw [List.set_eq_take_append_cons_drop,AaN hlt,show off + (k + 1) = (off + k) + 1 by omega]
   rw [List.take_append,AaW,Nat.min_eq_left (by omega),List.take_take,Nat.min_eq_right (by omega)]
   simp
  have h2 : (cells.toList.set (off + k) x).drop (off + (k + 1) + xs.length) = cells.toList.drop (off + k + (xs.length + 1)):=by
   rw [List.drop_set_of_lt (by omega)]
   congr 1
   omega
  rw [h1,h2]
  simp
theorem MF (c : Array Value) (off : Nat) (cells : Array Value) (h : off + c.size <= cells.size) :
  (c.zipIdx.foldl (fun cs (p : Value × Nat)=>cs.setIfInBounds (off + p.2) p.1) cells).toList = cells.toList.take off ++ c.toList ++ cells.toList.drop (off + c.size):=by
 rw [<- Array.foldl_toList,Array.toList_zipIdx]
 have:=MA c.toList 0 off cells (by simpa using h)
 simpa using this
theorem Jw {xs cs l : List V} {off : Nat} {X C : List Value} (h : FA cs off xs = some l) (hc : RepL w S ρ H cs C) (hx : RepL w S ρ H xs X) : RepL w S ρ H l (C.take off ++ X ++ C.drop (off + X.length)) /\ off + X.length <= C.length:=by
 simp only [FA,Ah,Abv,AaG] at h
 obtain ⟨hl,rfl⟩:=h
 have h1:=hx.1
 have h2:=hc.1
 rw [h1]
 exact ⟨((hc.take off).append hx).append (hc.drop _),by omega⟩
theorem IC {place : Nat -> Option (Nat × Nat)} : ∀ (ps : List (Nat × Nat)) (parts : List (Nat × Value)) (xs cs l : List V) (C : Array Value),PZ cs ps xs = some l -> RepL w S ρ H cs C.toList -> All2 (RepX w S ρ β H) xs (parts.map (·.2)) ->
  (∀ (j : Nat) p q,ps[j]? = some p -> parts[j]? = some q -> place q.1 = some p) -> ∃ C',Instr.fill place C parts = some C' /\ RepL w S ρ H l C'.toList
 | [],parts,xs,cs,l,C,h,hc,hx,hp=>by
  cases xs with
  | nil =>
   simp only [PZ,AaG] at h
   subst h
   cases parts with
   | nil=>exact ⟨C,rfl,hc⟩
   | cons p ps=>cases hx
  | cons x xs=>simp [PZ] at h
 | p :: ps,parts,xs,cs,l,C,h,hc,hx,hp=>by
  cases xs with
  | nil=>obtain ⟨off,sz⟩:=p; simp [PZ] at h
  | cons x xs =>
   obtain ⟨off,sz⟩:=p
   simp only [PZ,AaF,Ah,AaV] at h
   obtain ⟨lx,hlx,hsz,cs',hcs',h⟩:=h
   cases parts with
   | nil=>cases hx
   | cons q parts =>
    obtain ⟨i,c⟩:=q
    cases hx with | cons hc0 hx =>
    have hcl:=RepX.cells hc0 hlx
    have hpl:=hp 0 (off,sz) (i,c) rfl rfl
    obtain ⟨h1,h2⟩:=Jw hcs' hc hcl
    have hcsz : c.cells.size = sz:=by have:=hcl.1; simp at this; omega
    simp only [Abp] at h1 h2
    rw [<- MF c.cells off C h2] at h1
    obtain ⟨C',hC',hl'⟩:=IC ps parts xs cs' l _ h h1 hx (fun j p q hj hq=>hp (j + 1) p q (by simpa using hj) (by simpa using hq))
    refine ⟨C',?_,hl'⟩
    have hpl : place i = some (off,sz):=hpl
    simp only [Instr.fill,hpl]
    rw [AaL (by simp; omega)]
    exact hC'
theorem Da (f : Operand -> Value) (ps : Array (Nat × Operand)) : (ps.map fun (i,x)=>(i,f x)).toList = ps.toList.map fun q=>(q.1,f q.2):=by simp
theorem Mn {α β : Type} {f : α -> Sem β} {g : α -> β} (w : World) : ∀ (l : List α),(∀ x,x ∈ l -> (f x).run P w = .ok (g x) w) -> (l.mapM f).run P w = .ok (l.map g) w
 | [],_=>by simp
 | x :: l,h=>by
  simp only [List.mapM_cons,Sem.run_bind,h x (by simp),Result.andThen_ok,Mn w l (fun y hy=>h y (by simp [hy])),Sem.run_pure,Abr]
theorem GH {fs : Array Field} : ∀ {ps : List (Nat × Operand)} {l : List (Nat × Nat)},GI P fs ps = some l -> ∀ (j : Nat) p q,l[j]? = some p -> ps[j]? = some q -> ∃ f s,fs[q.1]? = some f /\ Bi P f.type = some s /\ p = (f.offset,s)
 | [],l,h,j,p,q,hp,hq=>by simp at hq
 | (i,x) :: ps,l,h,j,p,q,hp,hq=>by
  simp only [GI,AaF,AaG] at h
  obtain ⟨f,hf,s,hs,l',hl',rfl⟩:=h
  cases j with
  | zero=>simp at hp hq; subst hp; subst hq; exact ⟨f,s,hf,hs,rfl⟩
  | succ j=>exact GH hl' j p q (by simpa using hp) (by simpa using hq)
theorem Gb {t : TypeId} {ps : Array (Nat × Operand)} {zs : List V} {fs : Array Field} {pl : List (Nat × Nat)} (ho : o.op = .build t ps) (hz : CM P t = some zs) (hu : P.underlying t = some (.struct fs)) (hall : (fs.toList.all fun f=>(P.info? f.type).isSome) = true) (hpl : GI P fs ps.toList = some pl)
  (hok : Ok w S ρ β M) (hv : All2 (RepX w S ρ β M.H) vs ((ps.toList.map (·.2)).map a.eval)) (he : Ap (.build zs pl) vs = some v) :
  Outc w S ρ β M (.p (.build zs pl)) v M ((execOp a.eval o).run P w):=by
 obtain ⟨i,z,hi,hz1,hz2,hz3,hz4⟩:=Cm hz
 simp only [Ap,AaF,AaG] at he
 obtain ⟨cs,hcs,rfl⟩:=he
 have hmapM : (fs.mapM fun f=>do pure (f.offset,<- sizeOf f.type) : Sem (Array (Nat × Nat))).run P w = .ok (fs.map fun f=>(f.offset,((P.info? f.type).map (·.size)).getD 0)) w:=by
  rw [Array.mapM_eq_mapM_toList]
  simp only [Sem.run_map]
  rw [Mn (g:=fun f=>(f.offset,((P.info? f.type).map (·.size)).getD 0)) w fs.toList (fun f hf=>by
   have:=AaZ.1 hall f hf
   obtain ⟨i,hi⟩:=AbB.1 this
   simp [AA hi,hi])]
  simp only [Result.andThen,<- Array.toList_map]
 obtain ⟨C',hC',hl'⟩:=IC (place:=fun k=>(fs.map fun f=>(f.offset,((P.info? f.type).map (·.size)).getD 0))[k]?) (β:=β) pl (ps.map fun (i,x)=>(i,a.eval x)).toList vs zs cs z.cells hcs (hz4 w S ρ M.H)
  (by rw [Da]; simpa [List.map_map,Function.comp_def] using hv) (fun j p q hp hq=>by
   rw [Da,Abb] at hq
   obtain ⟨q',hq',rfl⟩:=Abh.1 hq
   obtain ⟨f,s,hf,hs,rfl⟩:=GH hpl j p q' hp hq'
   obtain ⟨i',hi',rfl⟩:=AB.1 hs
   simp [hf,hi'])
 refine .val hok (RepX.ofV hl'.mkAg) ?_
 simp only [execOp,ho,Instr.build,Sem.run_bind,AZ hi hz1,run_underlying hu,Result.andThen_ok,hmapM,hC']
 simp
theorem Gz {t e : TypeId} {n : Nat} {ps : Array (Nat × Operand)} {zs : List V} {s : Nat} (ho : o.op = .build t ps) (hz : CM P t = some zs) (hu : P.underlying t = some (.array n e)) (hs : Bi P e = some s)
  (hok : Ok w S ρ β M) (hv : All2 (RepX w S ρ β M.H) vs ((ps.toList.map (·.2)).map a.eval)) (he : Ap (.build zs (ps.toList.map fun q=>(q.1 * s,s))) vs = some v) :
  Outc w S ρ β M (.p (.build zs (ps.toList.map fun q=>(q.1 * s,s)))) v M ((execOp a.eval o).run P w):=by
 obtain ⟨i,z,hi,hz1,hz2,hz3,hz4⟩:=Cm hz
 obtain ⟨ie,hie,rfl⟩:=AB.1 hs
 simp only [Ap,AaF,AaG] at he
 obtain ⟨cs,hcs,rfl⟩:=he
 obtain ⟨C',hC',hl'⟩:=IC (place:=fun k=>some (k * ie.size,ie.size)) (β:=β) _ (ps.map fun (i,x)=>(i,a.eval x)).toList vs zs cs z.cells hcs (hz4 w S ρ M.H)
  (by rw [Da]; simpa [List.map_map,Function.comp_def] using hv) (fun j p q hp hq=>by
   rw [Da,Abb] at hq
   obtain ⟨q',hq',rfl⟩:=Abh.1 hq
   rw [Abb,hq'] at hp
   simpa using hp)
 refine .val hok (RepX.ofV hl'.mkAg) ?_
 simp only [execOp,ho,Instr.build,Sem.run_bind,AZ hi hz1,run_underlying hu,Result.andThen_ok,AA hie,hC']
 simp
def Ct : Nat -> Value
 | 0=>.pointer none
 | 1=>.map none
 | 2=>.nilFunc
 | 3=>.nilIface
 | _=>.slice none 0 0
theorem JE {k : Nat} {y : Operand} (h : HO k y = true) : y = .const (Ct k):=by
 unfold HO at h
 split at h <;> first | rfl | cases h
theorem HN {k : Nat} {x : V} {c : Value} {r : Bool} (h : Fa k x = some r) (hx : RepX w S ρ β H x c) :
  (k = 0 /\ ∃ p : Option Addr,c = .pointer p /\ r = p.isNone) \/ (k = 1 /\ ∃ p : Option Nat,c = .map p /\ r = p.isNone) \/ (k = 2 /\ ((c = .nilFunc /\ r = true) \/ (∃ f u z,c = .func f u z) /\ r = false)) \/
  (k = 3 /\ ((c = .nilIface /\ r = true) \/ (∃ t u,c = .iface t u) /\ r = false)) \/ (k = 4 /\ ∃ (p : Option Addr) (n m : Nat),c = .slice p n m /\ r = p.isNone):=by
 unfold Fa at h
 split at h <;> first | cases h | (simp only [Option.some.injEq] at h; subst h)
 ·have hx:=(RepX.toV rfl hx).imm; cases hx; exact .inl ⟨rfl,none,rfl,rfl⟩
 ·have hx:=(RepX.toV rfl hx).imm; cases hx; exact .inl ⟨rfl,some _,rfl,rfl⟩
 ·have hx:=RepX.toV rfl hx; cases hx; exact .inl ⟨rfl,some _,rfl,rfl⟩
 ·exact .inl ⟨rfl,some _,hx,rfl⟩
 ·have hx:=(RepX.toV rfl hx).imm; cases hx; exact .inr (.inl ⟨rfl,none,rfl,rfl⟩)
 ·have hx:=(RepX.toV rfl hx).imm; cases hx; exact .inr (.inl ⟨rfl,some _,rfl,rfl⟩)
 ·have hx:=RepX.toV rfl hx; cases hx; exact .inr (.inl ⟨rfl,some _,rfl,rfl⟩)
 ·have hx:=(RepX.toV rfl hx).imm; cases hx; exact .inr (.inr (.inl ⟨rfl,.inl ⟨rfl,rfl⟩⟩))
 ·have hx:=(RepX.toV rfl hx).imm; cases hx; exact .inr (.inr (.inl ⟨rfl,.inr ⟨⟨_,_,_,rfl⟩,rfl⟩⟩))
 ·have hx:=RepX.toV rfl hx; cases hx; exact .inr (.inr (.inl ⟨rfl,.inr ⟨⟨_,_,_,rfl⟩,rfl⟩⟩))
 ·have hx:=(RepX.toV rfl hx).imm; cases hx; exact .inr (.inr (.inr (.inl ⟨rfl,.inl ⟨rfl,rfl⟩⟩)))
 ·have hx:=(RepX.toV rfl hx).imm; cases hx; exact .inr (.inr (.inr (.inl ⟨rfl,.inr ⟨⟨_,_,rfl⟩,rfl⟩⟩)))
 ·have hx:=(RepX.toV rfl hx).imm; cases hx; exact .inr (.inr (.inr (.inr ⟨rfl,none,_,_,rfl,rfl⟩)))
 ·have hx:=(RepX.toV rfl hx).imm
  cases hx with | sl _ ad cap esz b off cs hcap hm hsz ha hnn hc hr =>
  obtain ⟨p,rfl⟩:=hnn
  exact .inr (.inr (.inr (.inr ⟨rfl,some _,_,_,rfl,rfl⟩)))
 ·have hx:=HL (RepX.toV rfl hx)
  cases hx with | sl _ ad cap esz b off cs hcap hm hsz ha hnn hc hr =>
  obtain ⟨p,rfl⟩:=hnn
  exact .inr (.inr (.inr (.inr ⟨rfl,some _,_,_,rfl,rfl⟩)))
 ·have hx:=RepX.toV rfl hx
  cases hx with | sl _ _ _ _ _ _ ty es base fz ad cap hrow h1 h2 h3 h4 h5 hn hb ha =>
  obtain ⟨p,rfl⟩:=hn
  exact .inr (.inr (.inr (.inr ⟨rfl,some _,_,_,rfl,rfl⟩)))
theorem VY (d : Nat) {k : Nat} {x : V} {c : Value} {r : Bool} {t : TypeId} (h : Fa k x = some r) (hx : RepX w S ρ β H x c) (ht : Yw P t = some k) :
  (Op.equalIn (d + 1) t c (Ct k)).run P w = .ok r w /\ (Op.equalIn (d + 1) t (Ct k) c).run P w = .ok r w:=by
 have hU : ∃ d,P.underlying t = some d:=by
  unfold Yw at ht
  cases hu : P.underlying t with
  | none=>simp [hu] at ht
  | some d=>exact ⟨d,rfl⟩
 obtain ⟨u,hu⟩:=hU
 simp only [Yw,hu] at ht
 rcases HN h hx with ⟨rfl,p,rfl,rfl⟩ | ⟨rfl,p,rfl,rfl⟩ | ⟨rfl,hc⟩ | ⟨rfl,hc⟩ | ⟨rfl,p,n,m,rfl,rfl⟩
 ·cases u <;> simp at ht
  simp only [Op.equalIn,Ct,Sem.run_bind,run_underlying hu,Result.andThen_ok]
  cases p <;> simp
 ·cases u <;> simp at ht
  simp only [Op.equalIn,Ct,Sem.run_bind,run_underlying hu,Result.andThen_ok]
  cases p <;> simp
 ·cases u <;> simp at ht
  simp only [Op.equalIn,Ct,Sem.run_bind,run_underlying hu,Result.andThen_ok]
  rcases hc with ⟨rfl,rfl⟩ | ⟨⟨f,u,z,rfl⟩,rfl⟩ <;> simp
 ·cases u <;> simp at ht
  simp only [Op.equalIn,Ct,Sem.run_bind,run_underlying hu,Result.andThen_ok]
  rcases hc with ⟨rfl,rfl⟩ | ⟨⟨f,u,rfl⟩,rfl⟩ <;> simp
 ·cases u <;> simp at ht
  simp only [Op.equalIn,Ct,Sem.run_bind,run_underlying hu,Result.andThen_ok]
  cases p <;> simp
theorem JH {op : BinOp} {t : TypeId} {x y : Operand} {c c' : Value} (h : ∀ xs,c ≠ .agg xs) (hc : (∃ u,x = .const u) \/ ∃ u,y = .const u) : (eqGuard op t x y c c').run P w = .ok () w:=by
 rcases hc with ⟨u,rfl⟩ | ⟨u,rfl⟩ <;> cases c <;> first | exact absurd rfl (h _) | (cases op <;> rfl) | (cases c' <;> cases op <;> first | rfl | (cases x <;> rfl))
theorem PV {k : Nat} {x : V} {c : Value} {r : Bool} (h : Fa k x = some r) (hx : RepX w S ρ β H x c) :
  (∀ k n,c ≠ .int k n) /\ (∀ k p q,c ≠ .complex k p q) /\ (∀ k n,c ≠ .float k n) /\ (∀ s,c ≠ .string s) /\ ∀ xs,c ≠ .agg xs:=by
 rcases HN h hx with ⟨rfl,p,rfl,rfl⟩ | ⟨rfl,p,rfl,rfl⟩ | ⟨rfl,⟨rfl,rfl⟩ | ⟨⟨f,u,z,rfl⟩,rfl⟩⟩ | ⟨rfl,⟨rfl,rfl⟩ | ⟨⟨f,u,rfl⟩,rfl⟩⟩ | ⟨rfl,p,n,m,rfl,rfl⟩ <;> simp
theorem Pj {neg : Bool} {k : Nat} {t ty : TypeId} {x y z : Operand} (ho : o.op = .binOp (OQ neg) t x y ty) (ht : Yw P t = some k) (hz : (HO k y = true /\ z = x) \/ (HO k x = true /\ z = y)) (hok : Ok w S ρ β M) (hv : All2 (RepX w S ρ β M.H) vs [a.eval z]) (he : Ap (.eqn neg k) vs = some v) :
  Outc w S ρ β M (.p (.eqn neg k)) v M ((execOp a.eval o).run P w):=by
 cases hv with | cons h t1 =>
 cases t1
 simp only [Ap,vb,AaF,AaG] at he
 obtain ⟨r,hr,rfl⟩:=he
 obtain ⟨e1,e2⟩:=VY (P:=P) 9999 hr h ht
 obtain ⟨n1,n2,n3,n4,n5⟩:=PV hr h
 refine .val hok (RepX.ofV (.m (.b (xor neg r)))) ?_
 have hnv : (∀ j n,Ct k ≠ .int j n) /\ (∀ j p q,Ct k ≠ .complex j p q) /\ (∀ j n,Ct k ≠ .float j n) /\ (∀ s,Ct k ≠ .string s) /\ ∀ xs,Ct k ≠ .agg xs:=by
  unfold Ct
  split <;> simp
 rcases hz with ⟨hn,rfl⟩ | ⟨hn,rfl⟩
 ·have hy:=JE hn
  have hye : a.eval y = Ct k:=by rw [hy]; rfl
  have:=Il (P:=P) (w:=w) (x:=z) (y:=y) (neg:=neg) n1 n2 n3 n4 (JH n5 (.inr ⟨_,hy⟩)) e1
  simp only [execOp,ho,hye]
  rw [Sem.run_bind,this]
  rfl
 ·have hx:=JE hn
  have hxe : a.eval x = Ct k:=by rw [hx]; rfl
  have:=Il (P:=P) (w:=w) (x:=x) (y:=z) (neg:=neg) hnv.1 hnv.2.1 hnv.2.2.1 hnv.2.2.2.1 (JH hnv.2.2.2.2 (.inl ⟨_,hx⟩)) e2
  simp only [execOp,ho,hxe]
  rw [Sem.run_bind,this]
  rfl
end
end Go.Mx
/- Slices laid anew in a block of their own: literals, '[]byte(s)'; slice data. -/
namespace Go.Mx
section
variable {P : Program} {w : World} {S : Nat -> Prop} {ρ β : Nat -> Nat} {M : Mem} {H : Hp} {o : Oper} {a : Act} {vs : List V} {v : V}
theorem DC (w : World) (x : Obj) : Gw w (w.drew.alloc x) none:=⟨⟨rfl,rfl,rfl,by simp,fun k hk _=>heap_alloc_old w x k hk⟩,fun _=>Nat.le_succ _⟩
theorem Fx (w : World) (e : TypeId) (cs : Array Value) : (Go.newRow e cs).run P w = .ok ⟨w.heap.size,0,none⟩ (w.alloc (.cells cs e)):=rfl
def AaC (S : Nat -> Prop) (w : World) : Nat -> Prop:=fun b=>S b \/ b = w.heap.size
theorem Ok.allocI (hok : Ok w S ρ β M) {w' : World} (hg : Gw w w' none) (hs : w'.heap.size = w.heap.size + 1) : Ok w' (AaC S w) ρ β M /\ Stp w S ρ β M w' (AaC S w) ρ M.H :=
 hok.grow hg (fun _ h=>.inl h) (fun b h=>h.imp id (fun e=>by omega)) (fun b h=>by
  rcases h with h | h
  ·have:=hok.lt b h; omega
  ·omega)
theorem GK : ∀ {es : List (List V)} {l : List (List I)},Ai Cc es = some l -> es = Et l
 | [],l,h=>by simp [Ai] at h; subst h; rfl
 | e :: es,l,h=>by
  simp only [Ai,AaF,AaG] at h
  obtain ⟨x,hx,l',hl,rfl⟩:=h
  rw [IJ hx,GK hl]
  rfl
theorem JG (l : List (List I)) : (Et l).flatten = l.flatten.map .m:=by rw [Et,List.map_flatten]
theorem Iw (l : List (List I)) : (Et l).length = l.length:=by simp [Et]
theorem SV {n : Nat} {l : List (List I)} (h : Uni n (Et l)) : Uni n l:=fun e he=>by
 have:=h (e.map .m) (by simp only [Et,Abz]; exact ⟨e,he,rfl⟩)
 simpa using this
theorem Sf {n : Nat} {l : List (List I)} (h : Uni n l) : Uni n (Et l):=fun e he=>by
 simp only [Et,Abz] at he
 obtain ⟨e',he',rfl⟩:=he
 simpa using h e' he'
theorem RepI.ofRow {es : List (List I)} {esz b cap : Nat} {cur : Array Value} {T : TypeId} {mk : Nat × Nat} (hS : S b) (hh : w.heap[b]? = some (.cells cur T mk)) (hu : Uni esz es) (hr : RepL w S ρ H (es.flatten.map .m) (cur.toList.take (es.length * esz)))
  (hcap : es.length <= cap) (hm : cap <= maxLen) : RepI w S (.sl es) (.slice (some ⟨b,0,none⟩) es.length cap):=by
 obtain ⟨hl,c,hc,hx⟩:=hr.toI
 refine .sl es (some ⟨b,0,none⟩) cap esz b 0 (fun i j=>c (i * esz + j)) hcap hm hu (fun _=>⟨rfl,hS⟩) ⟨_,rfl⟩ (fun i e j x hi hj=>?_) (fun i e j x hi hj=>?_)
 ·have hf:=CI hu hi hj
  have h1:=hc _ _ hf
  rw [Abx] at h1
  split at h1
  ·rw [Nat.zero_add,cell_of_row w b _ cur T mk hh]
   simpa using h1
  ·cases h1
 ·exact hx _ _ (CI hu hi hj)
theorem HS {esz : Nat} : ∀ (ps : List Nat) (parts : List (Nat × Value)) (xs : List V) (es es' : List (List V)) (C : Array Value),Bu esz es ps xs = some es' -> Uni esz es -> RepL w S ρ H es.flatten C.toList -> All2 (RepX w S ρ β H) xs (parts.map (·.2)) ->
  ps = parts.map (·.1) -> ∃ C',Instr.fill (fun i=>some (i * esz,esz)) C parts = some C' /\ RepL w S ρ H es'.flatten C'.toList /\ Uni esz es' /\ es'.length = es.length
 | [],parts,xs,es,es',C,h,hu,hc,hx,hp=>by
  cases xs with
  | nil =>
   simp only [Bu,AaG] at h
   subst h
   cases parts with
   | nil=>exact ⟨C,rfl,hc,hu,rfl⟩
   | cons p ps=>cases hx
  | cons x xs=>simp [Bu] at h
 | p :: ps,parts,xs,es,es',C,h,hu,hc,hx,hp=>by
  cases xs with
  | nil=>simp [Bu] at h
  | cons x xs =>
   simp only [Bu,AaF,Ah,AaV] at h
   obtain ⟨lx,hlx,hsz,es1,hes1,h⟩:=h
   cases parts with
   | nil=>cases hx
   | cons q parts =>
    obtain ⟨i,c⟩:=q
    cases hx with | cons hc0 hx =>
    simp only [Abr,List.cons.injEq] at hp
    obtain ⟨rfl,hp⟩:=hp
    obtain ⟨hlt,rfl⟩:=BJ hes1
    have hcl:=RepX.cells hc0 hlx
    have hcsz : c.cells.size = esz:=by have:=hcl.1; simp at this; omega
    have hfl:=hu.len
    have hcl2:=hc.1
    simp only [Abp] at hcl2
    have hle : p * esz + esz <= es.length * esz:=by
     have:=Abg esz (Nat.succ_le_of_lt hlt)
     rw [Nat.succ_mul] at this
     exact this
    have h1 : RepL w S ρ H (es.set p lx).flatten (C.toList.take (p * esz) ++ c.cells.toList ++ C.toList.drop (p * esz + esz)):=by
     rw [Ix hu hlt hsz]
     exact ((hc.take _).append hcl).append (hc.drop _)
    rw [<- hcsz,<- MF c.cells (p * c.cells.size) C (by rw [hcsz]; omega)] at h1
    obtain ⟨C',hC',hl',hu',hlen⟩:=HS ps parts xs (es.set p lx) es' _ h (hu.set hsz) h1 hx hp
    refine ⟨C',?_,hl',hu',by simpa using hlen⟩
    simp only [Instr.fill]
    rw [AaL (by simp; omega)]
    rw [hcsz] at hC'
    exact hC'
theorem Ma (zs : Array Value) (n : Nat) (hpos : 0 < zs.size) : ((Array.range (n * zs.size)).map (fun i=>zs[i % zs.size]!)).toList = (List.replicate n zs.toList).flatten:=by
 have hu : Uni zs.size (List.replicate n zs.toList):=Uni.replicate (by simp)
 apply List.ext_getElem?
 intro p
 by_cases hp : p < n * zs.size
 ·have h1 : (List.replicate n zs.toList)[p / zs.size]? = some zs.toList:=by
   rw [List.getElem?_replicate,AaN]
   exact (Nat.div_lt_iff_lt_mul hpos).2 hp
  have hm:=Nat.mod_lt p hpos
  have h2 : zs.toList[p % zs.size]? = some zs[p % zs.size]:=by simp [hm]
  have h3:=CI hu h1 h2
  have h4 : p / zs.size * zs.size + p % zs.size = p:=by rw [Aca]; exact Nat.div_add_mod p zs.size
  rw [h4] at h3
  rw [h3]
  simp [hp,hm]
 ·rw [List.getElem?_eq_none (by simp; omega),List.getElem?_eq_none (by rw [hu.len]; simp; omega)]
theorem Es {t e : TypeId} {n s : Nat} {ps : Array (Nat × Operand)} {zs : List V} {es : List (List V)} (hu : P.underlying t = some (.slice e)) (hs : Bi P e = some s) (hlim : n * s <= 16777216) (hpos : 1 <= s) (hz : CM P e = some zs)
  (hv : All2 (RepX w S ρ β H) vs ((ps.toList.map (·.2)).map a.eval)) (he : Bu s (List.replicate n zs) (ps.toList.map (·.1)) vs = some es) :
  ∃ C',(Instr.buildSlice t n (ps.map fun (i,x)=>(i,a.eval x))).run P w = .ok (.slice (some ⟨w.heap.size,0,none⟩) n n) (w.alloc (.cells C' e)) /\ RepL w S ρ H es.flatten C'.toList /\ Uni s es /\ es.length = n:=by
 obtain ⟨i,z,hi,hz1,hz2,hz3,hz4⟩:=Cm hz
 obtain ⟨i',hi',rfl⟩:=AB.1 hs
 rw [hi] at hi'
 cases hi'
 obtain ⟨C0,hC1,hC2,hR0⟩ : ∃ C0 : Array Value,(n * i.size = 0 -> C0 = #[]) /\ (n * i.size ≠ 0 -> C0 = z.cells) /\ RepL w S ρ H (List.replicate n zs).flatten ((Array.range (n * i.size)).map (fun k=>C0[k % C0.size]!)).toList:=by
  by_cases h0 : n * i.size = 0
  ·refine ⟨#[],fun _=>rfl,fun h=>absurd h0 h,?_⟩
   have hn : n = 0:=by
    rcases Nat.mul_eq_zero.1 h0 with h | h
    ·exact h
    ·omega
   subst hn
   simpa using RepL.nil
  ·refine ⟨z.cells,fun h=>absurd h h0,fun _=>rfl,?_⟩
   rw [<- hz2,Ma _ _ (by omega)]
   clear h0 he hlim
   induction n with
   | zero=>simpa using RepL.nil
   | succ n ih=>rw [List.replicate_succ,List.replicate_succ,AbA,AbA]; exact (hz4 w S ρ H).append ih
 obtain ⟨C',hC',hl',hu',hlen⟩:=HS (β:=β) _ (ps.map fun (i,x)=>(i,a.eval x)).toList vs _ es _ he (Uni.replicate hz3) hR0
  (by rw [Da]; simpa [List.map_map,Function.comp_def] using hv) (by rw [Da]; simp [List.map_map,Function.comp_def])
 refine ⟨C',?_,hl',hu',by simpa using hlen⟩
 have hnl : ¬ n * i.size > 2 ^ 24:=by omega
 by_cases h0 : n * i.size = 0
 ·have:=hC1 h0
  subst this
  simp only [Instr.buildSlice,Sem.run_bind,run_underlying hu,Result.andThen_ok,AA hi,AaL hnl,AaN h0,Sem.run_pure,hC',Fx]
 ·have:=hC2 h0
  subst this
  simp only [Instr.buildSlice,Sem.run_bind,run_underlying hu,Result.andThen_ok,AA hi,AaL hnl,AaL h0,Sem.run_pure,hC',Fx,AZ hi hz1]
theorem Vw {t e : TypeId} {n s : Nat} {ps : Array (Nat × Operand)} {zs : List V} (ho : o.op = .buildSlice t n ps) (hu : P.underlying t = some (.slice e)) (hs : Bi P e = some s) (hlim : n * s <= 16777216) (hpos : 1 <= s) (hz : CM P e = some zs)
  (hok : Ok w S ρ β M) (hv : All2 (RepX w S ρ β M.H) vs ((ps.toList.map (·.2)).map a.eval)) (he : Ap (.bsl s zs n (ps.toList.map (·.1))) vs = some v) :
  Outc w S ρ β M (.p (.bsl s zs n (ps.toList.map (·.1)))) v M ((execOp a.eval o).run P w):=by
 simp only [Ap,AaF,AaG] at he
 obtain ⟨es,hes,l,hl,rfl⟩:=he
 obtain ⟨C',hrun,hR,hU,hlen⟩:=Es (P:=P) (w:=w) (S:=S) (ρ:=ρ) (β:=β) (H:=M.H) (a:=a) hu hs hlim hpos hz hv hes
 have hei:=GK hl
 subst hei
 obtain ⟨hok',hst⟩:=hok.allocI (Gw.alloc w (.cells C' e) none) (by simp)
 refine ⟨.value (.slice (some ⟨w.heap.size,0,none⟩) n n),_,w.alloc (.cells C' e),_,ρ,β,by simp [execOp,ho,hrun],.inl rfl,hok',hst,?_,fun _ _=>rfl,fun d hd=>.inl ⟨d,hd,rfl⟩⟩
 rw [Iw] at hlen
 have hUI:=SV hU
 have hRl:=hst.list hR
 rw [JG] at hRl
 have hln : l.length <= maxLen:=by
  have : l.length * 1 <= l.length * s:=Nat.mul_le_mul_left _ hpos
  rw [<- hlen] at hlim
  unfold maxLen; omega
 have hll:=hRl.1
 simp only [Abe,hUI.len] at hll
 have:=RepI.ofRow (ρ:=ρ) (H:=M.H) (S:=AaC S w) (b:=w.heap.size) (cap:=l.length) (.inr rfl) (heap_alloc_new w (.cells C' e)) hUI (by rw [Abc (by omega)]; exact hRl) (AaQ _) hln
 rw [<- hlen]
 exact .ls l _ this
end
end Go.Mx
/- Keys of maps: what the model checks and finds, against the machine's. -/
namespace Go.Mx
section
variable {P : Program} {w : World} {S : Nat -> Prop} {ρ β : Nat -> Nat} {M : Mem} {H : Hp}
theorem Cx (em : Bool) : ∀ (k : Nat) (t : TypeId) (ks : List Nat),Cq P k t = some ks -> ∀ (d : Nat) (w : World) (S : Nat -> Prop) (c : Value) (cs : List Value) (xs : List I),Vt P t c cs -> LI w S xs cs -> xs.length = ks.length ->
  (Instr.checkKey em (d + k) t c).run P w = .ok () w
 | 0,_,_,h,_=>by simp [Cq] at h
 | k + 1,t,ks,h,d=>by
  intro w S c cs xs v1 hx hl
  rw [<- Nat.add_assoc]
  simp only [Cq] at h
  split at h
  ·rename_i hu
   simp only [Instr.checkKey,Sem.run_bind,run_underlying hu,Result.andThen_ok,Sem.run_pure]
  ·rename_i hu
   simp only [Instr.checkKey,Sem.run_bind,run_underlying hu,Result.andThen_ok,Sem.run_pure]
  ·rename_i hu
   simp only [Instr.checkKey,Sem.run_bind,run_underlying hu,Result.andThen_ok,Sem.run_pure]
  ·rename_i fs hu
   have hag : BZ P t = some true:=by simp [BZ,hu]
   simp only [Ah,Abi] at h
   obtain ⟨hst,h⟩:=h
   obtain ⟨a,rfl,rfl⟩:=v1.agg hag
   simp only [Instr.checkKey,Sem.run_bind,run_underlying hu,Result.andThen_ok]
   rw [<- Array.forIn_toList]
   have IH:=fun t ks (hk : Cq P k t = some ks)=>Cx em k t ks hk d w S
   have hx0 : LI w S xs (a.toList.drop 0):=by simpa using hx
   clear hx v1 hu hst
   generalize (0 : Nat) = o0 at h hx0
   generalize fs.toList = L at h
   induction L generalizing o0 ks xs with
   | nil=>simp
   | cons f L ih =>
    simp only [HR,Ah,AaJ,AaV,AaU,AaF,AaG,AB] at h
    obtain ⟨⟨ho,hn⟩,s,hs,s',⟨i,hi,rfl⟩,hsz,l,hlf,rfl⟩:=h
    simp only [AaX] at hl
    obtain ⟨c,p1,v1⟩:=Dh hs hi hsz.symm hx0 (by omega)
    have p2:=IH _ _ hs c _ _ v1 (hx0.take _) (by rw [AaW]; omega)
    rw [<- ho] at p1
    simp only [List.forIn_cons,Sem.run_bind,hn,ne_eq,not_false_eq_true,if_true,Result.andThen_ok,p1,p2,Sem.run_pure]
    have hx2:=hx0.drop s.length
    rw [List.drop_drop] at hx2
    rw [<- hsz] at hlf
    exact ih (hl:=by rw [Abt]; omega) (h:=hlf) (hx0:=hx2)
  ·rename_i n e hu
   have hag : BZ P t = some true:=by simp [BZ,hu]
   simp only [AaF,Ah,AaV,AaG,AB] at h
   obtain ⟨s,hs,s',⟨i,hi,rfl⟩,hsz,rfl⟩:=h
   obtain ⟨a,rfl,rfl⟩:=v1.agg hag
   simp only [Instr.checkKey,Sem.run_bind,run_underlying hu,Result.andThen_ok]
   simp only [Std.Legacy.Range.forIn_eq_forIn_range',Std.Legacy.Range.size,Nat.sub_zero,Nat.add_one_sub_one,Nat.div_one]
   have hx0 : LI w S xs (a.toList.drop (0 * s.length)):=by simpa using hx
   have hl0 : xs.length = n * s.length:=by rw [hl]; simp [List.length_flatten]
   clear hx v1 hu hl
   generalize (0 : Nat) = j at hx0
   induction n generalizing j xs with
   | zero=>simp
   | succ n ih =>
    rw [Abm] at hl0
    obtain ⟨c,p1,v1⟩:=Dh hs hi hsz.symm hx0 (by omega)
    have p2:=Cx em k e s hs d w S c _ _ v1 (hx0.take _) (by rw [AaW]; omega)
    rw [hsz] at p1
    simp only [List.range'_succ,List.forIn_cons,Sem.run_bind,AA hi,Result.andThen_ok,p1,p2,Sem.run_pure]
    have hx2:=hx0.drop s.length
    rw [List.drop_drop,show j * s.length + s.length = (j + 1) * s.length by rw [Abm]; omega] at hx2
    exact ih (hl0:=by rw [Abt]; omega) (hx0:=hx2)
  ·cases h
theorem JC {t : TypeId} {kt : KT} (h : ON P t = some kt) : Cq P 6 t = some kt.ks /\ BZ P t = some kt.ag:=by
 simp only [ON,AaF,AaG] at h
 obtain ⟨ks,h1,ag,h2,rfl⟩:=h
 exact ⟨h1,h2⟩
theorem CG {t : TypeId} {kt : KT} {key : I} {c : Value} (em : Bool) (h : ON P t = some kt) (hk : ED kt key = true) (hr : RepI w S key c) : (Instr.checkKey em 10000 t c).run P w = .ok () w:=by
 obtain ⟨h1,h2⟩:=JC h
 have hq : ∃ r,CO kt key key = some r:=by
  unfold ED at hk
  split at hk
  ·rename_i r hr; exact ⟨r,hr⟩
  ·cases hk
 obtain ⟨r,hq⟩:=hq
 unfold CO at hq
 cases hag : kt.ag with
 | true =>
  rw [hag] at hq h2
  cases key with
  | ag xs =>
   obtain ⟨cs,rfl,hl⟩:=RepV.ofAgI (ρ:=id) (H:=[]) (.m hr)
   exact Cx em 6 t _ h1 9994 w S _ _ xs (.inl ⟨h2,_,rfl,rfl⟩) (.ofL hl) (Dy _ _ _ _ hq).1
  | _=>simp at hq
 | false =>
  rw [hag] at hq h2
  simp only at hq
  split at hq
  ·rename_i k hks
   rw [hks] at h1
   exact Cx em 6 t _ h1 9994 w S c [c] [key] (.inr ⟨h2,rfl⟩) (RepL.cons (.m hr) .nil) (by simp)
  ·cases hq
def Ents (w : World) (S : Nat -> Prop) (ρ : Nat -> Nat) (H : Hp) (es : List (I × V)) (ents : List MapEntry) : Prop:=All2 (fun p (e : MapEntry)=>RepI w S p.1 e.key /\ RepV w S ρ H p.2 e.val) es ents
def HJ (kt : KT) (key : I) : List (I × V) -> Option (Option Nat)
 | []=>some none
 | (k,_) :: r=>(CO kt key k).bind fun q=>match q with
  | true=>some (some 0)
  | false=>(HJ kt key r).bind fun p=>some (p.map (· + 1))
theorem JR {kt : KT} {key : I} : ∀ {es : List (I × V)} {q : Option V},IB kt key es = some q -> ∃ p,HJ kt key es = some p /\ q = p.bind fun i=>(es[i]?).map (·.2)
 | [],q,h=>by simp [IB] at h; subst h; exact ⟨none,rfl,rfl⟩
 | (k,x) :: r,q,h=>by
  simp only [IB,AaF] at h
  obtain ⟨b,hb,h⟩:=h
  cases b with
  | true=>simp only [AaG] at h; subst h; exact ⟨some 0,by simp [HJ,hb],rfl⟩
  | false =>
   obtain ⟨p,hp,rfl⟩:=JR h
   refine ⟨p.map (· + 1),by simp [HJ,hb,hp],?_⟩
   cases p <;> simp
theorem LG {kt : KT} {key : I} {x : V} : ∀ {es es' : List (I × V)},Se kt key x es = some es' -> ∃ p,HJ kt key es = some p /\ es' = match p with
  | some i=>es.set i (key,x)
  | none=>es ++ [(key,x)]
 | [],es',h=>by simp [Se] at h; subst h; exact ⟨none,rfl,rfl⟩
 | (k,y) :: r,es',h=>by
  simp only [Se,AaF] at h
  obtain ⟨b,hb,h⟩:=h
  cases b with
  | true=>simp only [AaG] at h; subst h; exact ⟨some 0,by simp [HJ,hb],rfl⟩
  | false =>
   simp only [AaF,AaG] at h
   obtain ⟨l,hl,rfl⟩:=h
   obtain ⟨p,hp,rfl⟩:=LG hl
   refine ⟨p.map (· + 1),by simp [HJ,hb,hp],?_⟩
   cases p <;> simp
theorem MJ {kt : KT} {key : I} : ∀ {es es' : List (I × V)},Ti kt key es = some es' -> ∃ p,HJ kt key es = some p /\ es' = match p with
  | some i=>es.eraseIdx i
  | none=>es
 | [],es',h=>by simp [Ti] at h; subst h; exact ⟨none,rfl,rfl⟩
 | (k,y) :: r,es',h=>by
  simp only [Ti,AaF] at h
  obtain ⟨b,hb,h⟩:=h
  cases b with
  | true=>simp only [AaG] at h; subst h; exact ⟨some 0,by simp [HJ,hb],rfl⟩
  | false =>
   simp only [AaF,AaG] at h
   obtain ⟨l,hl,rfl⟩:=h
   obtain ⟨p,hp,rfl⟩:=MJ hl
   refine ⟨p.map (· + 1),by simp [HJ,hb,hp],?_⟩
   cases p <;> simp
def CV (ents : List MapEntry) (i : Nat) (p : Option Nat) : Option (Nat × Value):=p.bind fun j=>(ents[j]?).map fun e=>(i + j,e.val)
theorem HX (e : MapEntry) (ents : List MapEntry) (i : Nat) (p : Option Nat) : CV (e :: ents) i (p.map (· + 1)) = CV ents (i + 1) p:=by
 cases p with
 | none=>rfl
 | some j=>simp only [CV,AbE,AaR,List.getElem?_cons_succ]; congr 1; funext e; congr 1; omega
theorem ME {t : TypeId} {ks : List Nat} {xs : List I} {c : Value} (h1 : Cq P 6 t = some ks) (h2 : BZ P t = some true) (hc : RepI w S (.ag xs) c) : ∀ (es : List (I × V)) (ents : List MapEntry) (i : Nat) (p : Option Nat),Ents w S ρ H es ents -> HJ ⟨true,ks⟩ (.ag xs) es = some p ->
  (Instr.findAsking t c ents i).run P w = .ok (CV ents i p) w
 | [],ents,i,p,he,hp=>by
  cases he
  simp only [HJ,AaG] at hp
  subst hp
  simp [Instr.findAsking,CV]
 | (k,x) :: es,ents,i,p,he,hp=>by
  cases he with | cons hd he =>
  rename_i ent ents
  simp only [HJ,AaF] at hp
  obtain ⟨b,hb,hp⟩:=hp
  simp only [CO] at hb
  cases k with
  | ag ys =>
   obtain ⟨cx,rfl,lx⟩:=RepV.ofAgI (ρ:=id) (H:=[]) (.m hc)
   obtain ⟨cy,hy,ly⟩:=RepV.ofAgI (ρ:=id) (H:=[]) (.m hd.1)
   have hq:=Iy 6 t ks h1 9994 w S (.agg cx) (.agg cy) _ _ _ ys b (.inl ⟨h2,_,rfl,rfl⟩) (.inl ⟨h2,_,rfl,rfl⟩) (.ofL lx) (.ofL ly) hb
   have hq : (Op.equal t (.agg cx) ent.key).run P w = .ok b w:=by rw [hy]; exact hq
   simp only [Instr.findAsking,Sem.run_bind,hq,Result.andThen_ok]
   cases b with
   | true=>simp only [AaG] at hp; subst hp; simp [CV]
   | false =>
    simp only [AaF,AaG] at hp
    obtain ⟨q,hq,rfl⟩:=hp
    rw [HX]
    simpa using ME h1 h2 hc es ents (i + 1) q he hq
  | _=>simp at hb
theorem Jm {t : TypeId} {k : Nat} {d : TypeDesc} {x y : I} {r : Bool} {c c' : Value} (h1 : Cq P 6 t = some [k]) (h2 : BZ P t = some false) (hu : P.underlying t = some d) (h : eqC k x y = some r) (hx : RepI w S x c) (hy : RepI w S y c') : Instr.sameNow d c c' = some r:=by
 have hk : (k = 0 -> d = .bool) /\ (k = 1 -> ∃ j,d = .int j) /\ (k = 2 -> d = .string):=by
  simp only [Cq,hu] at h1
  simp only [BZ,hu,AaR] at h2
  cases d <;> simp at h1 h2 <;> subst h1 <;> simp
 rcases GX h hx hy with ⟨rfl,p,q,rfl,rfl,rfl⟩ | ⟨rfl,j,p,q,rfl,rfl,rfl⟩ | ⟨rfl,p,q,rfl,rfl,rfl⟩
 ·rw [hk.1 rfl]; rfl
 ·obtain ⟨j',rfl⟩:=hk.2.1 rfl; simp [Instr.sameNow]
 ·rw [hk.2.2 rfl]; rfl
theorem JQ {t : TypeId} {k : Nat} {d : TypeDesc} {x : I} {c : Value} (h1 : Cq P 6 t = some [k]) (h2 : BZ P t = some false) (hu : P.underlying t = some d) (hc : RepI w S x c) : ∀ (es : List (I × V)) (ents : List MapEntry) (i : Nat) (p : Option Nat),Ents w S ρ H es ents -> HJ ⟨false,[k]⟩ x es = some p ->
  Instr.findNow d c ents i = some (CV ents i p)
 | [],ents,i,p,he,hp=>by
  cases he
  simp only [HJ,AaG] at hp
  subst hp
  simp [Instr.findNow,CV]
 | (y,v) :: es,ents,i,p,he,hp=>by
  cases he with | cons hd he =>
  rename_i ent ents
  simp only [HJ,AaF] at hp
  obtain ⟨b,hb,hp⟩:=hp
  simp only [CO] at hb
  have hs:=Jm h1 h2 hu hb hc hd.1
  simp only [Instr.findNow,hs]
  cases b with
  | true=>simp only [AaG] at hp; subst hp; simp [CV]
  | false =>
   simp only [AaF,AaG] at hp
   obtain ⟨q,hq,rfl⟩:=hp
   rw [HX]
   exact JQ h1 h2 hu hc es ents (i + 1) q he hq
theorem CF {t : TypeId} {kt : KT} {key : I} {c : Value} {es : List (I × V)} {ents : List MapEntry} {p : Option Nat} (h : ON P t = some kt) (hc : RepI w S key c) (hok : ED kt key = true) (he : Ents w S ρ H es ents) (hp : HJ kt key es = some p) :
  (Instr.findKey t c ents).run P w = .ok (CV ents 0 p) w:=by
 obtain ⟨h1,h2⟩:=JC h
 obtain ⟨ag,ks⟩:=kt
 cases ag with
 | true =>
  have hxs : ∃ xs,key = .ag xs:=by
   unfold ED at hok
   simp only [CO] at hok
   split at hok
   ·rename_i hq; split at hq
    ·exact ⟨_,rfl⟩
    ·cases hq
   ·cases hok
  obtain ⟨xs,rfl⟩:=hxs
  rw [run_findKey_eq w (by
   simp only [BZ,AaF] at h2
   obtain ⟨d,hd,h2⟩:=h2
   rw [hd]
   cases d <;> simp at h2 <;> rfl)]
  exact ME h1 h2 hc es ents 0 p he hp
 | false =>
  have hk : ∃ k,ks = [k]:=by
   obtain ⟨ag,hag,hl⟩:=JO h1
   rw [h2] at hag
   simp only [AaG] at hag
   have:=hl hag.symm
   exact List.length_eq_one_iff.1 this
  obtain ⟨k,rfl⟩:=hk
  have hd : ∃ d,P.underlying t = some d:=by
   simp only [BZ,AaF] at h2
   obtain ⟨d,hd,_⟩:=h2
   exact ⟨d,hd⟩
  obtain ⟨d,hd⟩:=hd
  exact MapKept.run_findKey hd (JQ h1 h2 hd hc es ents 0 p he hp)
end
end Go.Mx
/- Operations that read memory: each against the model's. -/
namespace Go.Mx
section
variable {P : Program} {w : World} {S : Nat -> Prop} {ρ β : Nat -> Nat} {M : Mem} {H : Hp} {o : Oper} {a : Act} {vs : List V} {v : V}
theorem Gi {n : Nat} {xs l : List V} (h : CN n xs = some l) : l = xs.take n /\ l.length = n:=by
 simp only [CN,Ah,AaV,AaG] at h
 exact ⟨h.2.symm,by rw [<- h.2]; exact h.1⟩
theorem Mc {esz ix off sz : Nat} {es : List (List V)} {l : List V} (hu : Uni esz es) (h : DF esz es ix off sz = some l) : l = (es.flatten.drop (ix * esz + off)).take sz /\ l.length = sz:=by
 unfold DF at h
 split at h
 ·rename_i hb
  rw [Abv] at hb
  simp only [AaF,AK] at h
  obtain ⟨e,he,ht⟩:=h
  obtain ⟨rfl,hl⟩:=Gi ht
  refine ⟨?_,hl⟩
  rw [Gl hu he,List.drop_take,List.take_take,Nat.min_eq_left (by omega),List.drop_drop]
  congr 2
  have:=Nat.div_add_mod off esz
  rw [Abm,Aca (off / esz) esz]
  omega
 ·exact Gi h
theorem GG {sz : Nat} {x : V} {c : Value} {cs : List V} (hok : Ok w S ρ β M) (hx : RepX w S ρ β M.H x c) (h : readA M sz x = some cs) :
  ∃ b off cells,c = .pointer (some ⟨b,off,none⟩) /\ cells.length = sz /\ RepL w S ρ M.H cs cells /\ (∀ (j : Nat) u,cells[j]? = some u -> w.cell? ⟨b,off + j,none⟩ = some u) /\ (AE x = true -> S b \/ ∃ r,r < M.H.length /\ b = ρ r /\ Fy x = [r]):=by
 unfold readA at h
 split at h
 ·rename_i d off
  simp only [AaF] at h
  obtain ⟨cs0,h0,ht⟩:=h
  obtain ⟨cur,T,hh,hr⟩:=hok.boxes d cs0 h0
  obtain ⟨rfl,hl⟩:=Gi ht
  have hR:=(hr.drop off).take sz
  refine ⟨β d,off,_,hx,by rw [hR.1]; exact hl,hR,fun j u hj=>?_,by simp [AE]⟩
  rw [Abx] at hj
  split at hj
  ·rw [List.getElem?_drop] at hj
   rw [cell_of_row w _ _ cur T _ hh]
   simpa using hj
  ·cases hj
 ·rename_i r ver ix off
  simp only [AaF,AK] at h
  obtain ⟨row,hrow,h⟩:=h
  split at h
  ·rename_i ty esz es base fz
   simp only [Ah,AaJ,Bool.or_eq_true,Abv,AaV] at h
   obtain ⟨⟨hbv,hsz⟩,ht⟩:=h
   have hx:=RepX.toV rfl hx
   cases hx with | pt _ _ _ _ ty' esz' es' base' fz' p hrow' h2 hix hb =>
   rw [hrow] at hrow'
   simp only [AaG,Row.cs.injEq] at hrow'
   obtain ⟨rfl,rfl,rfl,rfl,rfl⟩:=hrow'
   obtain ⟨b,rfl,hA⟩:=hb hbv
   obtain ⟨_,hpos,hU,_,_,cur,cap,mk,hh,_,hcs,hcap,_,hr⟩:=hok.rows r _ hrow
   obtain ⟨hl1,hl2⟩:=Mc hU ht
   subst hl1
   have hR:=(hr.drop (ix * esz + off)).take sz
   have key : ∀ (j : Nat) u,(((cur.toList.take (es.length * esz)).drop (ix * esz + off)).take sz)[j]? = some u -> w.cell? ⟨ρ r,ix * esz + off + j,none⟩ = some u:=fun j u hj=>by
    rw [Abx] at hj
    split at hj
    ·rw [List.getElem?_drop,Abx] at hj
     split at hj
     ·rw [cell_of_row w _ _ cur _ mk hh]
      simpa using hj
     ·cases hj
    ·cases hj
   refine ⟨b,ix * esz + off,_,rfl,by rw [hR.1]; exact hl2,hR,fun j u hj=>?_,fun _=>?_⟩
   rotate_left
   ·rcases hA with rfl | ⟨hSb,_⟩
    ·exact .inr ⟨r,(AaI.1 hrow).1,rfl,rfl⟩
    ·exact .inl hSb
   rcases hA with rfl | ⟨_,hne,hcell⟩
   ·exact key j u hj
   ·have hlt : j < sz:=by
     have:=(AaI.1 hj).1
     rw [AaW] at this
     omega
    rcases hsz with hsz | hsz
    ·have : ix * esz + esz <= ver * esz:=by
      have:=Abg esz (Nat.succ_le_of_lt hix)
      rw [Nat.succ_mul] at this
      exact this
     rw [hcell _ (by omega)]
     exact key j u hj
    ·exact absurd hsz hne
  ·cases h
 ·rename_i xs
  obtain ⟨rfl,hl⟩:=Gi h
  have hx:=(RepX.toV rfl hx).imm
  cases hx with | pt _ b off c hS hc hr =>
  have hlen : sz <= xs.length:=by rw [AaW,Abe] at hl; omega
  refine ⟨b,off,(List.range sz).map c,rfl,by simp,⟨by simp; omega,fun j y hj=>?_⟩,fun j u hj=>?_,fun _=>.inl hS⟩
  ·rw [Abx] at hj
   split at hj
   ·rename_i hlt
    rw [Abb] at hj
    obtain ⟨z,hz,rfl⟩:=Abh.1 hj
    exact ⟨c j,by simp [hlt],.m (hr j z hz)⟩
   ·cases hj
  ·have hlt : j < sz:=by have:=(AaI.1 hj).1; simpa using this
   have hz : xs[j]? = some xs[j]:=AaK (by omega)
   rw [hc j _ hz]
   simp [hlt] at hj
   rw [hj]
 ·cases h
theorem GB {t : TypeId} {ag : Bool} {i : TypeInfo} (hag : BZ P t = some ag) (hi : P.info? t = some i) (hs : ag = true \/ i.size = 1) {b off : Nat} {cells : List Value} (hl : cells.length = i.size) (hc : ∀ (j : Nat) u,cells[j]? = some u -> w.cell? ⟨b,off + j,none⟩ = some u)
  {cs : List V} (hr : RepL w S ρ H cs cells) (hv : CD ag cs = some v) : ∃ c,(loadVar t ⟨b,off,none⟩).run P w = .ok c w /\ RepV w S ρ H v c:=by
 rcases EQ (cs:=cells.toArray) (by simpa using hr) hv with ⟨rfl,h4⟩ | ⟨rfl,c,hcs,h4⟩
 ·refine ⟨_,?_,h4⟩
  have:=run_loadCells_list (P:=P) w ⟨b,off,none⟩ cells (fun j u hj=>by rw [Be]; exact hc j u hj)
  rw [hl] at this
  simp only [loadVar,Sem.run_bind,CY hag,Result.andThen_ok,if_true,AA hi,this,Sem.run_pure]
 ·refine ⟨c,?_,h4⟩
  have hce : cells = [c]:=by simpa using congrArg Array.toList hcs
  subst hce
  have:=hc 0 c rfl
  simp only [Nat.add_zero] at this
  simp [loadVar,CY hag,this,run_load,Result.andThen]
theorem LO {t : TypeId} {x : Operand} {ag : Bool} {s : Nat} (ho : o.op = .load t x) (hag : BZ P t = some ag) (hs : Bi P t = some s) (hs1 : ag = true \/ s = 1) (hok : Ok w S ρ β M) (hv : All2 (RepX w S ρ β M.H) vs [a.eval x]) (he : readX M (.ld ag s) vs = some v) :
  Outc w S ρ β M (.r (.ld ag s)) v M ((execOp a.eval o).run P w):=by
 cases hv with | cons h t1 =>
 cases t1
 obtain ⟨i,hi,rfl⟩:=AB.1 hs
 simp only [readX,AaF] at he
 obtain ⟨cs,hcs,hvo⟩:=he
 obtain ⟨b,off,cells,hx,hl,hR,hc,_⟩:=GG hok h hcs
 obtain ⟨c,hrun,hrep⟩:=GB (P:=P) (w:=w) hag hi hs1 hl hc hR hvo
 refine .val hok (RepX.ofV hrep) ?_
 simp [execOp,ho,hx,Instr.loadAt,Instr.sureAddr,hrun]
theorem Jy : ∀ {es : List (List I)} {l : List (I × V)},pairs es = some l -> l.length = es.length /\ ∀ (j : Nat) k x,l[j]? = some (k,x) -> ∃ y,x = .m y /\ es[j]? = some [k,y]
 | [],l,h=>by simp [pairs] at h; subst h; simp
 | [k,x] :: r,l,h=>by
  simp only [pairs,AaF,AaG] at h
  obtain ⟨l',hl',rfl⟩:=h
  obtain ⟨h1,h2⟩:=Jy hl'
  refine ⟨by simp [h1],fun j k' x' hj=>?_⟩
  cases j with
  | zero=>simp at hj; obtain ⟨rfl,rfl⟩:=hj; exact ⟨x,rfl,rfl⟩
  | succ j=>simpa using h2 j k' x' (by simpa using hj)
 | [] :: _,_,h=>by simp [pairs] at h
 | [_] :: _,_,h=>by simp [pairs] at h
 | (_ :: _ :: _ :: _) :: _,_,h=>by simp [pairs] at h
theorem All2.ofGet {α β : Type} {R : α -> β -> Prop} : ∀ {l : List α} {m : List β},m.length = l.length -> (∀ (j : Nat) x,l[j]? = some x -> ∃ y,m[j]? = some y /\ R x y) -> All2 R l m
 | [],[],_,_=>.nil
 | [],_ :: _,h,_=>by simp at h
 | _ :: _,[],h,_=>by simp at h
 | x :: l,y :: m,h,hr=>by
  obtain ⟨y',hy,hxy⟩:=hr 0 x rfl
  simp at hy
  subst hy
  exact .cons hxy (All2.ofGet (by simpa using h) fun j x' hj=>by simpa using hr (j + 1) x' (by simpa using hj))
theorem All2.get {α β : Type} {R : α -> β -> Prop} : ∀ {l : List α} {m : List β},All2 R l m -> ∀ (j : Nat) x,l[j]? = some x -> ∃ y,m[j]? = some y /\ R x y
 | _,_,.nil,j,x,h=>by simp at h
 | _,_,.cons hxy t,0,x,h=>by simp at h; subst h; exact ⟨_,rfl,hxy⟩
 | _,_,.cons hxy t,j + 1,x,h=>by simpa using t.get j x (by simpa using h)
theorem PR {x : V} {c : Value} {es : List (I × V)} (hok : Ok w S ρ β M) (hx : RepX w S ρ β M.H x c) (h : mapOf M.H x = some es) :
  (c = .map none /\ es = []) \/ ∃ r ents clock,c = .map (some r) /\ w.heap[r]? = some (.map ents clock) /\ Ents w S ρ M.H es ents.toList:=by
 unfold mapOf at h
 split at h
 ·simp only [AaG] at h
  subst h
  have:=(RepX.toV rfl hx).imm
  cases this
  exact .inl ⟨rfl,rfl⟩
 ·rename_i l
  have:=(RepX.toV rfl hx).imm
  obtain ⟨h1,h2⟩:=Jy h
  cases this with | mp _ r ents clock ks xs hS hw hl hp hk hxx hkr hxr =>
  refine .inr ⟨r,ents,clock,rfl,hw,All2.ofGet (by simp; omega) fun j p hj=>?_⟩
  obtain ⟨k,x⟩:=p
  obtain ⟨y,rfl,hy⟩:=h2 j k x hj
  have a1:=hk j k y hy
  have a2:=hxx j k y hy
  cases hen : ents[j]? with
  | none=>simp [hen] at a1
  | some e =>
   simp only [hen,AbE,AaG] at a1 a2
   exact ⟨e,by simpa using hen,by rw [a1]; exact hkr j k y hy,by rw [a2]; exact .m (hxr j k y hy)⟩
 ·rename_i r
  simp only [AaF,AK] at h
  obtain ⟨row,hrow,h⟩:=h
  split at h
  ·rename_i es' fz
   simp only [AaG] at h
   subst h
   have:=RepX.toV rfl hx
   cases this
   obtain ⟨_,_,ents,clock,hh,⟨hl,_⟩,hE⟩:=hok.rows r _ hrow
   exact .inr ⟨ρ r,ents,clock,rfl,hh,All2.ofGet (by simpa using hl) fun j p hj=>by
    obtain ⟨ent,h1,h2⟩:=hE j p.1 p.2 hj
    exact ⟨ent,by simpa using h1,h2⟩⟩
  ·cases h
 ·cases h
theorem Lc {x : V} {k : I} (h : Ur x = some k) : x = .m k:=by cases x <;> simp [Ur] at h; rw [h]
def Ee (k e : TypeId) (y : Value) (ok : Bool) (es : Array MapEntry) : Sem Value:=do
 Instr.checkKey es.isEmpty 10000 k y
 let (v,b) <- match <- Instr.findKey k y es.toList with
  | some (_,v)=>pure (v,true)
  | none=>pure (<- zeroValue e,false)
 pure (if ok then .tuple #[v,.bool b] else v)
theorem HA {t : TypeId} {ag : Bool} {i : TypeInfo} {z : Value} {zs : List V} {v0 : V} (hi : P.info? t = some i) (hz : i.zero = some z) (hg : Je P t ag = true) (hr : RepL w S ρ H zs z.cells.toList) (hv : CD ag zs = some v0) : RepV w S ρ H v0 z:=by
 simp only [Je,hi,AaR,hz] at hg
 cases z with
 | agg cs =>
  simp only at hg
  subst hg
  rcases EQ (cs:=cs) hr hv with ⟨_,h4⟩ | ⟨h,_⟩
  ·exact h4
  ·cases h
 | _ =>
  simp only [Abi] at hg
  subst hg
  rcases EQ (cs:=#[_]) hr hv with ⟨h,_⟩ | ⟨_,c,hc,h4⟩
  ·cases h
  ·simp at hc
   rw [hc]
   exact h4
theorem FT {k e : TypeId} {ok ag : Bool} {kt : KT} {zs : List V} {key : I} {cy : Value} {es : List (I × V)} {ents : Array MapEntry} {q : Option V} (hz : CM P e = some zs) (hg : Je P e ag = true) (hkt : ON P k = some kt)
  (hkr : RepI w S key cy) (hoky : ED kt key = true) (hE : Ents w S ρ H es ents.toList) (hq : IB kt key es = some q)
  (he : We zs ag ok q = some v) : ∃ c,(Ee k e cy ok ents).run P w = .ok c w /\ RepV w S ρ H v c:=by
 obtain ⟨i,z,hi,hz1,hz2,hz3,hz4⟩:=Cm hz
 obtain ⟨p,hp,rfl⟩:=JR hq
 have hck:=CG (P:=P) (w:=w) ents.isEmpty hkt hoky hkr
 have hfk:=CF (P:=P) hkt hkr hoky hE hp
 have fin : ∀ (x : V) (c : Value) (b : Bool),RepV w S ρ H x c -> RepV w S ρ H (okT ok x b) (if ok = true then .tuple #[c,.bool b] else c):=fun x c b hx=>by
  cases ok
  ·simpa [okT] using hx
  ·exact RepL.toTu (cs:=#[c,.bool b]) (.cons hx (.cons (.m (.b b)) .nil))
 cases p with
 | none =>
  simp only [Option.bind_none,We,AaF,AaG] at he
  obtain ⟨v0,hv0,rfl⟩:=he
  refine ⟨_,?_,fin v0 z false (HA hi hz1 hg (hz4 w S ρ H) hv0)⟩
  simp [Ee,hck,hfk,CV,AZ hi hz1]
 | some j =>
  simp only [AaR] at he
  cases hej : es[j]? with
  | none =>
   have hn : ents.toList[j]? = none:=by
    rw [AaM] at hej ⊢
    rw [<- All2.length hE]
    exact hej
   simp only [hej,Option.map_none,We,AaF,AaG] at he
   obtain ⟨v0,hv0,rfl⟩:=he
   refine ⟨_,?_,fin v0 z false (HA hi hz1 hg (hz4 w S ρ H) hv0)⟩
   have : CV ents.toList 0 (some j) = none:=by simp only [CV,AaR,hn,Option.map_none]
   simp [Ee,hck,hfk,this,AZ hi hz1]
  | some kx =>
   obtain ⟨k0,x⟩:=kx
   obtain ⟨ent,h1,_,h2⟩:=All2.get hE j _ hej
   simp only [hej,AbE,We,AaG] at he
   subst he
   refine ⟨_,?_,fin x ent.val true h2⟩
   have : CV ents.toList 0 (some j) = some (0 + j,ent.val):=by simp only [CV,AaR,h1,AbE]
   simp [Ee,hck,hfk,this]
theorem Vi {t k e : TypeId} {x y : Operand} {ok ag : Bool} {kt : KT} {zs : List V} (ho : o.op = .lookup t x y ok) (hu : P.underlying t = some (.map k e)) (hz : CM P e = some zs) (hg : Je P e ag = true) (hkt : ON P k = some kt)
  (hok : Ok w S ρ β M) (hv : All2 (RepX w S ρ β M.H) vs [a.eval x,a.eval y]) (he : readX M (.lkp kt zs ag ok) vs = some v) :
  Outc w S ρ β M (.r (.lkp kt zs ag ok)) v M ((execOp a.eval o).run P w):=by
 cases hv with | cons h t1 =>
 cases t1 with | cons h1 t2 =>
 cases t2
 simp only [readX,AaF,Ah] at he
 obtain ⟨es,hes,key,hkey,q,⟨hoky,hq⟩,he⟩:=he
 have hke:=Lc hkey
 subst hke
 have hkr:=(RepX.toV rfl h1).imm
 rcases PR hok h hes with ⟨hc,rfl⟩ | ⟨r,ents,clock,hc,hw,hE⟩
 ·obtain ⟨c,hrun,hrep⟩:=FT (P:=P) (v:=v) (ents:=#[]) hz hg hkt hkr hoky .nil hq he
  refine .val hok (RepX.ofV hrep) ?_
  have : (Instr.lookup t (.map none) (a.eval y) ok).run P w = .ok c w:=by
   rw [<- hrun]
   simp [Instr.lookup,Ee,run_underlying hu]
   rfl
  simp [execOp,ho,hc,this]
 ·obtain ⟨c,hrun,hrep⟩:=FT (P:=P) (v:=v) hz hg hkt hkr hoky hE hq he
  refine .val hok (RepX.ofV hrep) ?_
  have : (Instr.lookup t (.map (some r)) (a.eval y) ok).run P w = .ok c w:=by
   rw [<- hrun]
   simp [Instr.lookup,Ee,run_underlying hu,MapKept.run_getObj_map hw]
   rfl
  simp [execOp,ho,hc,this]
end
end Go.Mx
/- Slices' elements as they lie; 'string(b)'; cuts of arrays. -/
namespace Go.Mx
section
variable {P : Program} {w : World} {S : Nat -> Prop} {ρ β : Nat -> Nat} {M : Mem} {H : Hp} {o : Oper} {a : Act} {vs : List V} {v : V}
theorem RepI.cells {es : List (List I)} {ad : Option Addr} {n cap : Nat} (h : RepI w S (.sl es) (.slice ad n cap)) : n = es.length /\ ∃ esz cells,Uni esz es /\ RepL w S ρ H (es.flatten.map .m) cells /\
  (es ≠ [] -> ∃ b off,ad = some ⟨b,off,none⟩ /\ S b /\ ∀ (j : Nat) u,cells[j]? = some u -> w.cell? ⟨b,off + j,none⟩ = some u):=by
 cases h with
 | sl _ _ _ esz b off cs hcap hm hsz ha hnn hc hr =>
  have hu : Uni esz es:=hsz
  refine ⟨rfl,esz,(List.range (es.length * esz)).map fun p=>cs (p / esz) (p % esz),hu,⟨by rw [Abe,List.length_range,Abe,hu.len],fun j y hj=>?_⟩,fun hne=>⟨b,off,(ha hne).1,(ha hne).2,fun j u hj=>?_⟩⟩
  ·rw [Abb] at hj
   obtain ⟨z,hz,rfl⟩:=Abh.1 hj
   have hlt : j < es.length * esz:=by rw [<- hu.len]; exact (AaI.1 hz).1
   have hpos : 0 < esz:=Nat.pos_of_ne_zero (by rintro rfl; simp at hlt)
   obtain ⟨e,he,hx⟩:=MC hpos hu hz
   exact ⟨_,by simp [hlt],.m (hr _ _ _ _ he hx)⟩
  ·have hlt : j < es.length * esz:=by have:=(AaI.1 hj).1; simpa using this
   have hpos : 0 < esz:=Nat.pos_of_ne_zero (by rintro rfl; simp at hlt)
   have hz : es.flatten[j]? = some (es.flatten[j]'(by rw [hu.len]; exact hlt)):=AaK _
   obtain ⟨e,he,hx⟩:=MC hpos hu hz
   have:=hc _ _ _ _ he hx
   rw [show j / esz * esz + j % esz = j by rw [Aca]; exact Nat.div_add_mod j esz] at this
   rw [this]
   simp [hlt] at hj
   rw [hj]
theorem Fg {x : V} {c : Value} {es : List (List V)} (hok : Ok w S ρ β M) (hx : RepX w S ρ β M.H x c) (h : elems M.H x = some es) :
  ∃ ad cap esz cells,c = .slice ad es.length cap /\ Uni esz es /\ RepL w S ρ M.H es.flatten cells /\
   (es ≠ [] -> ∃ b off,ad = some ⟨b,off,none⟩ /\ (∀ (j : Nat) u,cells[j]? = some u -> w.cell? ⟨b,off + j,none⟩ = some u) /\ (S b \/ ∃ r,r < M.H.length /\ b = ρ r /\ Fy x = [r])):=by
 have imm : ∀ {l : List (List I)},RepI w S (.sl l) c -> ∃ ad cap esz cells,c = .slice ad (Et l).length cap /\ Uni esz (Et l) /\ RepL w S ρ M.H (Et l).flatten cells /\
   (Et l ≠ [] -> ∃ b off,ad = some ⟨b,off,none⟩ /\ (∀ (j : Nat) u,cells[j]? = some u -> w.cell? ⟨b,off + j,none⟩ = some u) /\ (S b \/ ∃ r,r < M.H.length /\ b = ρ r /\ Fy x = [r])):=fun {l} hI=>by
  obtain ⟨ad,cap,rfl,_⟩:=Dt hI
  obtain ⟨_,esz,cells,hu,hr,hc⟩:=RepI.cells (ρ:=ρ) (H:=M.H) hI
  refine ⟨ad,cap,esz,cells,by rw [Iw],Sf hu,by rw [JG]; exact hr,fun hne=>?_⟩
  obtain ⟨b,off,h1,h3,h2⟩:=hc (by rintro rfl; exact hne rfl)
  exact ⟨b,off,h1,h2,.inl h3⟩
 unfold elems at h
 split at h
 ·simp only [AaG] at h
  subst h
  have:=EX (RepX.toV rfl hx)
  subst this
  exact ⟨none,0,0,[],rfl,fun e he=>by simp at he,.nil,fun h=>absurd rfl h⟩
 ·simp only [AaG] at h
  subst h
  exact imm (RepX.toV rfl hx).imm
 ·simp only [AaG] at h
  subst h
  exact imm (HL (RepX.toV rfl hx))
 ·rename_i r ver esz st len lim
  simp only [AaF,AK] at h
  obtain ⟨row,hrow,h⟩:=h
  split at h
  ·rename_i ty esz' es0 base fz
   simp only [Ah,AaJ,Abv,AaV,AaG] at h
   obtain ⟨⟨hbv,rfl⟩,rfl⟩:=h
   have hx:=RepX.toV rfl hx
   cases hx with | sl _ _ _ _ _ _ ty' es' base' fz' ad cap hrow' h1 h2 h3 h4 h5 hn hb ha =>
   rw [hrow] at hrow'
   simp only [AaG,Row.cs.injEq] at hrow'
   obtain ⟨rfl,_,rfl,rfl,rfl⟩:=hrow'
   obtain ⟨_,hpos,hU,_,_,cur,cap',mk,hh,_,hcs,hcap,_,hr⟩:=hok.rows r _ hrow
   have hlen : ((es0.drop st).take len).length = len:=by rw [AaW,Abt]; omega
   have hU : Uni esz es0:=hU
   have hfl : ((es0.drop st).take len).flatten = (es0.flatten.drop (st * esz)).take (len * esz):=by
    rw [DR (hU.drop st) len,Fc hU st]
   have hR:=(hr.drop (st * esz)).take (len * esz)
   refine ⟨ad,cap,esz,_,by rw [hlen],(hU.drop st).take len,by rw [hfl]; exact hR,fun hne=>?_⟩
   have hlp : 0 < len:=by rw [<- hlen]; exact List.length_pos_iff.2 hne
   obtain ⟨b,rfl,hA⟩:=hb hbv hlp
   have key : ∀ (j : Nat) u,(((cur.toList.take (es0.length * esz)).drop (st * esz)).take (len * esz))[j]? = some u -> w.cell? ⟨ρ r,st * esz + j,none⟩ = some u:=fun j u hj=>by
    rw [Abx] at hj
    split at hj
    ·rw [List.getElem?_drop,Abx] at hj
     split at hj
     ·rw [cell_of_row w _ _ cur _ mk hh]
      simpa using hj
     ·cases hj
    ·cases hj
   refine ⟨b,st * esz,rfl,fun j u hj=>?_,?_⟩
   rotate_left
   ·rcases hA with rfl | ⟨hSb,_⟩
    ·exact .inr ⟨r,(AaI.1 hrow).1,rfl,rfl⟩
    ·exact .inl hSb
   rcases hA with rfl | ⟨_,hne,hcell⟩
   ·exact key j u hj
   ·have hlt : j < len * esz:=by
     have:=(AaI.1 hj).1
     rw [AaW] at this
     omega
    have : (st + len) * esz <= ver * esz:=Abg esz h1
    rw [Abm] at this
    rw [hcell _ (by omega)]
    exact key j u hj
  ·cases h
 ·cases h
theorem Hb : ∀ {es : List (List V)} {l : List Nat} {cells : List Value},Hd es = some l -> RepL w S ρ H es.flatten cells -> l.length = es.length /\ (∀ c,c ∈ l -> c < 256) /\ cells = l.map fun c : Nat=>Value.int .u8 (c : Int)
 | [],l,cells,h,hr=>by
  simp only [Hd,AaG] at h
  subst h
  exact ⟨rfl,by simp,by simpa using hr.inv_nil⟩
 | [.m (.i .u8 (.ofNat c))] :: r,l,cells,h,hr=>by
  simp only [Hd,Ah,AaF,AaG] at h
  obtain ⟨hlt,l',hl',rfl⟩:=h
  rw [AbA] at hr
  obtain ⟨c0,cs,rfl,hc,hr⟩:=hr.inv_cons
  obtain ⟨h1,h2,rfl⟩:=Hb hl' hr
  have:=BY hc
  subst this
  refine ⟨by simp [h1],fun d hd=>?_,by simp⟩
  rcases Abd.1 hd with rfl | hd
  ·simpa [AbU] using hlt
  ·exact h2 d hd
 | e :: r,l,cells,h,hr=>by
  unfold Hd at h
  split at h
  ·rename_i he; cases he
  ·rename_i c r' he
   cases he
   simp only [Ah,AaF,AaG] at h
   obtain ⟨hlt,l',hl',rfl⟩:=h
   rw [AbA] at hr
   obtain ⟨c0,cs,rfl,hc,hr⟩:=hr.inv_cons
   obtain ⟨h1,h2,rfl⟩:=Hb hl' hr
   have:=BY hc
   subst this
   refine ⟨by simp [h1],fun d hd=>?_,by simp⟩
   rcases Abd.1 hd with rfl | hd
   ·simpa [AbU] using hlt
   ·exact h2 d hd
  ·cases h
theorem PH {l : List Nat} (h : ∀ c,c ∈ l -> c < 256) : (l.map UInt8.ofNat).map UInt8.toNat = l:=by
 induction l with
 | nil=>rfl
 | cons c l ih =>
  have:=h c (by simp)
  simp only [Abr,ih fun d hd=>h d (by simp [hd])]
  congr 1
  simp; omega
theorem Vy {src d e : TypeId} {x : Operand} (ho : o.op = .convert src d x) (hs : P.underlying src = some (.slice e)) (hde : P.underlying e = some (.int .u8)) (hd : P.underlying d = some .string)
  (hok : Ok w S ρ β M) (hv : All2 (RepX w S ρ β M.H) vs [a.eval x]) (he : readX M .b2s vs = some v) :
  Outc w S ρ β M (.r .b2s) v M ((execOp a.eval o).run P w):=by
 cases hv with | cons h t1 =>
 cases t1
 simp only [readX,AaF,AaG] at he
 obtain ⟨es,hes,l,hl,rfl⟩:=he
 obtain ⟨ad,cap,esz,cells,hx,hu,hr,hc⟩:=Fg hok h hes
 obtain ⟨h1,h2,rfl⟩:=Hb hl hr
 have hm:=PH h2
 refine .val hok (RepX.ofV (.m (.s ⟨(l.map UInt8.ofNat).toArray⟩ l (by simpa using hm)))) ?_
 cases es with
 | nil =>
  have : l = []:=Abf (by simpa using h1)
  subst this
  cases ad with
  | none =>
   simp only [execOp,ho,hx,Sem.run_bind,convert,run_underlying hs,run_underlying hd,run_underlying hde,Result.andThen_ok,Conv.bytesToString,Sem.run_pure]
   rfl
  | some p =>
   have:=run_convert_bytes_back (P:=P) w src d e p cap [] hs hde hd (by simp)
   simp only [execOp,ho,hx,Sem.run_bind]
   simp only [AbP] at this ⊢
   rw [this]
   rfl
 | cons e0 es =>
  obtain ⟨b,off,rfl,hcell,_⟩:=hc (by simp)
  have:=run_convert_bytes_back (P:=P) w src d e ⟨b,off,none⟩ cap (l.map UInt8.ofNat) hs hde hd (fun j hj=>by
   rw [Be]
   refine hcell j _ ?_
   simp only [Abe] at hj
   have hlt:=h2 l[j] (List.getElem_mem hj)
   simp only [Abb,AaK hj,AbE,List.getElem_map]
   congr 2
   simp; omega)
  simp only [execOp,ho,hx,Sem.run_bind]
  rw [Abe,h1] at this
  rw [this]
  rfl
theorem LN {t e : TypeId} {n s : Nat} {x : Operand} {lo hi mx : Option Operand} (ho : o.op = .slice t x lo hi mx) (hu : P.underlying t = some (.array n e) \/ ∃ t',P.underlying t = some (.pointer t') /\ P.underlying t' = some (.array n e)) (hs : Bi P e = some s) {x0 : V}
  (hok : Ok w S ρ β M) (h : RepX w S ρ β M.H x0 (a.eval x)) (hv : All2 (RepX w S ρ β M.H) vs ((lo.toList ++ hi.toList ++ mx.toList).map a.eval)) (he : readX M (.slcA n s lo.isSome hi.isSome mx.isSome) (x0 :: vs) = some v) :
  Outc w S ρ β M (.r (.slcA n s lo.isSome hi.isSome mx.isSome)) v M ((execOp a.eval o).run P w):=by
 obtain ⟨i,hi',rfl⟩:=AB.1 hs
 rw [DN] at hv
 have run : ∀ (ad : Addr) l h m,a.eval x = .pointer (some ad) -> (Instr.sliceBounds false n n (lo.map a.eval) (hi.map a.eval) (mx.map a.eval)).run P w = .ok (l,h,m) w ->
   (execOp a.eval o).run P w = .ok (.value (.slice (some (if m = l then ad else ad.add (l * i.size))) (h - l) (m - l))) w:=fun ad l h m hx hb=>by
  rcases hu with hu | ⟨t',hu,hu'⟩
  ·simp only [execOp,ho,hx,Instr.sliceAt,Sem.run_bind,run_underlying hu,Result.andThen_ok,Instr.sureAddr,hb,AA hi',Sem.run_pure]
  ·simp only [execOp,ho,hx,Instr.sliceAt,Sem.run_bind,run_underlying hu,Result.andThen_ok,Instr.slice,asAddr,run_underlying hu',hb,AA hi',Sem.run_pure]
 simp only [readX] at he
 split at he
 ·rename_i cs
  simp only [Ah,AaJ,AaV,Abv,AaF,AaG] at he
  obtain ⟨⟨hlen,hn63⟩,⟨pl,ph⟩,hb,rfl⟩:=he
  have hI:=(RepX.toV rfl h).imm
  generalize hx : a.eval x = c at hI
  cases hI with | pt _ b off c hS hc hr =>
  obtain ⟨hrun,k1,k2⟩:=BM (P:=P) (isS:=false) (c:=n) (AaQ _) rfl (by simp) (by simp) (by simp) hv hb
  have hr':=run _ _ _ _ hx hrun
  have hU:=Fh i.size n cs (by omega)
  have hF : (BK i.size n cs).flatten = cs:=by rw [Ei i.size n cs (by omega),<- hlen,Aby]
  have hL : (BK i.size n cs).length = n:=Fi ..
  have hbase : RepI w S (.sl (BK i.size n cs)) (.slice (some ⟨b,off,none⟩) n n):=by
   have:=RepI.sl (w:=w) (S:=S) (BK i.size n cs) (some ⟨b,off,none⟩) n i.size b off (fun i' j=>c (i' * i.size + j)) (by omega) (by unfold maxLen; omega) hU (fun _=>⟨rfl,hS⟩) ⟨_,rfl⟩
    (fun i' e j x hi hj=>hc _ x (by have:=CI hU hi hj; rwa [hF] at this)) (fun i' e j x hi hj=>hr _ x (by have:=CI hU hi hj; rwa [hF] at this))
   rw [hL] at this
   exact this
  have hcut:=fun m (hm : ph <= m) (hmc : m <= n)=>KN hbase k1 k2 hm hmc hU
  have hlen2 : (((BK i.size n cs).drop pl).take (ph - pl)).length = ph - pl:=by rw [AaW,Abt]; omega
  have lsr : ∀ m,m = ph -> (hm : ph <= m) -> (hmc : m <= n) -> RepV w S ρ M.H (.ls (((BK i.size n cs).drop pl).take (ph - pl))) (.slice (some (if m = pl then ⟨b,off,none⟩ else (⟨b,off,none⟩ : Addr).add (pl * i.size))) (ph - pl) (m - pl)):=fun m hmp hm hmc=>by
   subst hmp
   have hc:=hcut m hm hmc
   have:=RepV.ls (w:=w) (S:=S) (ρ:=ρ) (H:=M.H) (((BK i.size n cs).drop pl).take (m - pl)) (some (if m = pl then ⟨b,off,none⟩ else (⟨b,off,none⟩ : Addr).add (pl * i.size)))
    (by rw [hlen2]; by_cases e : m = pl <;> simpa [e] using hc)
   rw [hlen2] at this
   exact this
  cases hmx : mx.isSome with
  | true =>
   rw [hmx] at hr'
   refine .val hok (RepX.ofV ?_) hr'
   simp only [if_true,Bool.true_or]
   exact lsr ph rfl (AaQ _) (by omega)
  | false =>
   rw [hmx] at hr'
   refine .val hok (RepX.ofV ?_) hr'
   simp only [AbO,if_false,Bool.false_or]
   cases hbq : Nat.beq ph n with
   | true=>exact lsr n (AaY hbq).symm (by omega) (AaQ _)
   | false =>
    refine .m ?_
    have:=hcut n (by omega) (AaQ _)
    by_cases e : n = pl <;> simpa [e] using this
 ·rename_i r ver
  simp only [AaF,AK] at he
  obtain ⟨row,hrow,he⟩:=he
  split at he
  ·rename_i ty esz es base fz
   simp only [Ah,AaJ,AaV,AaF,AaG] at he
   obtain ⟨⟨⟨hez,hel⟩,hvn⟩,⟨pl,ph⟩,hb,rfl⟩:=he
   have hV:=RepX.toV rfl h
   generalize hx : a.eval x = c at hV
   cases hV with | pt _ _ _ _ ty' esz' es' base' fz' p hrow' h2 hix hbb =>
   rw [hrow] at hrow'
   simp only [AaG,Row.cs.injEq] at hrow'
   obtain ⟨rfl,rfl,rfl,rfl,rfl⟩:=hrow'
   obtain ⟨hrun,k1,k2⟩:=BM (P:=P) (isS:=false) (c:=n) (AaQ _) rfl (by simp) (by simp) (by simp) hv hb
   have hr':=run _ _ _ _ hx hrun
   obtain ⟨_,_,_,_,_,cur,cap,mk,hh,_,hcs,hcap,hcm,_⟩:=hok.rows r _ hrow
   refine .val hok (RepX.ofV ?_) hr'
   rw [hez]
   refine .sl r ver esz pl (ph - pl) _ ty es base fz _ _ hrow (by omega) h2 ?_ ?_ ?_ ⟨_,rfl⟩ ?_ ?_
   ·split <;> omega
   ·split <;> omega
   ·intro hlim
    cases hmx : mx.isSome with
    | true=>simp
    | false =>
     rw [hmx] at hlim
     simp only [Bool.false_or,AaV] at hlim
     simp
     omega
   ·intro hbv hpos
    obtain ⟨b,hp,hA⟩:=hbb hbv
    subst hp
    have hne : ¬ (if mx.isSome = true then ph else n) = pl:=by split <;> omega
    rw [AaL hne]
    exact ⟨b,by simp [Be],hA⟩
   ·intro hve hst hlim hle
    exfalso
    have hbq : Nat.beq ph n = true:=by rw [AaV]; omega
    simp [hbq] at hlim
  ·cases he
 ·rename_i r ver off
  simp only [AaF,AK] at he
  obtain ⟨row,hrow,he⟩:=he
  split at he
  ·rename_i ty esz es base fz
   simp only [Ah,AaJ,AaV,Abv,AaF,AaG] at he
   obtain ⟨⟨⟨⟨hez,he1⟩,hel⟩,hvn⟩,⟨pl,ph⟩,hb,rfl⟩:=he
   have hV:=RepX.toV rfl h
   generalize hx : a.eval x = c at hV
   cases hV with | pt _ _ _ _ ty' esz' es' base' fz' p hrow' h2 hix hbb =>
   rw [hrow] at hrow'
   simp only [AaG,Row.cs.injEq] at hrow'
   obtain ⟨rfl,rfl,rfl,rfl,rfl⟩:=hrow'
   obtain ⟨hrun,k1,k2⟩:=BM (P:=P) (isS:=false) (c:=n) (AaQ _) rfl (by simp) (by simp) (by simp) hv hb
   have hr':=run _ _ _ _ hx hrun
   obtain ⟨_,_,_,_,_,cur,cap,mk,hh,_,hcs,hcap,hcm,_⟩:=hok.rows r _ hrow
   refine .val hok (RepX.ofV ?_) hr'
   rw [hez]
   refine .sl r ver esz (off + 1 + pl) (ph - pl) _ ty es base fz _ _ hrow (by omega) h2 ?_ ?_ ?_ ⟨_,rfl⟩ ?_ ?_
   ·split <;> omega
   ·have h1 : es.length <= es.length * esz:=Nat.le_mul_of_pos_right _ (by omega)
    have h3 : n <= maxLen:=by omega
    split <;> omega
   ·intro hlim
    cases hmx : mx.isSome with
    | true=>simp
    | false =>
     rw [hmx] at hlim
     simp only [Bool.false_or,AaV] at hlim
     simp
     omega
   ·intro hbv hpos
    obtain ⟨b,hp,hA⟩:=hbb hbv
    subst hp
    have hne : ¬ (if mx.isSome = true then ph else n) = pl:=by split <;> omega
    rw [AaL hne]
    refine ⟨b,?_,hA⟩
    have e1 : esz = 1:=by omega
    have e2 : i.size = 1:=by omega
    rw [Be,e1]
    exact congrArg (fun q=>some (Addr.mk b q none)) (by omega)
   ·intro hve hst hlim hle
    omega
  ·cases he
 ·cases he
end
end Go.Mx
/- Snapshots: what view makes stands for the same value over the rows' blocks; freezing rows makes their blocks stable. -/
namespace Go.Mx
section
variable {P : Program} {w : World} {S : Nat -> Prop} {ρ β : Nat -> Nat} {M : Mem} {H : Hp}
def InN (R : Nat -> Prop) : Nat -> V -> Prop
 | 0,_=>True
 | n + 1,v=>match v with
  | .sl r _ _ _ _ _=>R r
  | .pt r _ _ _=>R r
  | .mp r=>R r
  | .fn _ cap=>∀ x,x ∈ cap -> InN R n x
  | .ag cs=>∀ x,x ∈ cs -> InN R n x
  | .tu cs=>∀ x,x ∈ cs -> InN R n x
  | _=>True
def OJ (R : Nat -> Prop) (H : Hp) : Prop:=∀ r row,R r -> H[r]? = some row -> match row with
 | .cs _ _ es _ _=>∀ e,e ∈ es -> ∀ x,x ∈ e -> ∀ n,InN R n x
 | .mp es _=>∀ p,p ∈ es -> ∀ n,InN R n p.2
 | .lp _ _ _ _ _ _=>True
def Sof (S : Nat -> Prop) (ρ : Nat -> Nat) (H : Hp) (R : Nat -> Prop) : Nat -> Prop:=fun b=>S b \/ ∃ r,R r /\ r < H.length /\ b = ρ r
theorem AI {α β : Type} {f : α -> Option β} : ∀ {l : List α} {m : List β},Ai f l = some m -> m.length = l.length /\ ∀ (j : Nat) y,m[j]? = some y -> ∃ x,l[j]? = some x /\ f x = some y
 | [],m,h=>by simp [Ai] at h; subst h; simp
 | x :: l,m,h=>by
  simp only [Ai,AaF,AaG] at h
  obtain ⟨y,hy,l',hl,rfl⟩:=h
  obtain ⟨h1,h2⟩:=AI hl
  refine ⟨by simp [h1],fun j z hj=>?_⟩
  cases j with
  | zero=>simp at hj; subst hj; exact ⟨x,rfl,hy⟩
  | succ j=>simpa using h2 j z (by simpa using hj)
theorem EB {α β : Type} {f : α -> Option β} : ∀ {es : List (List α)} {l : List (List β)},Ai (fun e=>Ai f e) es = some l -> Ai f es.flatten = some l.flatten
 | [],l,h=>by simp [Ai] at h; subst h; rfl
 | e :: es,l,h=>by
  simp only [Ai,AaF,AaG] at h
  obtain ⟨y,hy,l',hl,rfl⟩:=h
  have ih:=EB hl
  have app : ∀ (a : List α) (b : List α) (y z : List β),Ai f a = some y -> Ai f b = some z -> Ai f (a ++ b) = some (y ++ z):=by
   intro a
   induction a with
   | nil=>intro b y z h1 h2; simp [Ai] at h1; subst h1; simpa using h2
   | cons c a iha =>
    intro b y z h1 h2
    simp only [Ai,AaF,AaG] at h1
    obtain ⟨c',hc',a',ha',rfl⟩:=h1
    simp [Ai,hc',iha b a' z ha' h2]
  exact app _ _ _ _ hy ih
theorem HK {α β : Type} {f : α -> Option β} {n : Nat} {es : List (List α)} {l : List (List β)} (h : Ai (fun e=>Ai f e) es = some l) (hu : Uni n es) : Uni n l:=fun e he=>by
 obtain ⟨j,hj,rfl⟩:=List.getElem_of_mem he
 obtain ⟨x,hx,hf⟩:=(AI h).2 j _ (AaK hj)
 rw [(AI hf).1]
 exact hu.get hx
theorem EP {R : Nat -> Prop} (hok : Ok w S ρ β M) (hcl : OJ R M.H) : ∀ (n : Nat) (v : V) (c : Value) (i : I),view n M.H v = some i -> InN R n v -> RepV w S ρ M.H v c -> RepI w (Sof S ρ M.H R) i c
 | 0,v,c,i,h,_,_=>by simp [view] at h
 | n + 1,v,c,i,h,hin,hv=>by
  have toI : ∀ {x : I} {c : Value},RepI w S x c -> RepI w (Sof S ρ M.H R) x c:=fun h=>h.mono (fun _ _=>rfl) (fun _ h=>.inl h)
  have list : ∀ {xs : List V} {l : List I} {cs : List Value},Ai (view n M.H) xs = some l -> (∀ x,x ∈ xs -> InN R n x) -> RepL w S ρ M.H xs cs -> LI w (Sof S ρ M.H R) l cs:=fun {xs l cs} h1 h2 h3=>by
   obtain ⟨g1,g2⟩:=AI h1
   refine ⟨by rw [Abe,g1]; exact h3.1,fun j y hj=>?_⟩
   rw [Abb] at hj
   obtain ⟨z,hz,rfl⟩:=Abh.1 hj
   obtain ⟨x,hx,hf⟩:=g2 j z hz
   obtain ⟨c,hc,hr⟩:=h3.2 j x hx
   exact ⟨c,hc,.m (EP hok hcl n x c z hf (h2 x (AaS hx)) hr)⟩
  unfold view at h
  cases v with
  | m x=>simp only [AaG] at h; subst h; exact toI hv.imm
  | un=>cases h
  | fa d off=>cases h
  | tu vs=>cases h
  | yl r=>cases h
  | ls es=>simp only [AaG] at h; subst h; exact toI (HL hv)
  | sl r ver esz st len lim =>
   simp only [AaF,AaG] at h
   obtain ⟨es,hes,l,hl,rfl⟩:=h
   obtain ⟨ad,cap,esz1,cells,rfl,hu1,hr,hc⟩:=Fg (β:=β) hok (RepX.ofV hv) hes
   have hR : R r:=hin
   have hrl : ∃ row,M.H[r]? = some row:=by
    cases hv with | sl _ _ _ _ _ _ ty' es' base' fz' _ _ hrow' h1 h2 h3 h4 h5 hn hb ha=>exact ⟨_,hrow'⟩
   obtain ⟨row,hrow⟩:=hrl
   have hcap : es.length <= cap /\ cap <= maxLen:=by
    cases hv with | sl _ _ _ _ _ _ ty' es' base' fz' _ _ hrow' h1 h2 h3 h4 h5 hn hb ha=>exact ⟨h3,h4⟩
   have hmem : ∀ x,x ∈ es.flatten -> InN R n x:=fun x hx=>by
    simp only [elems,AaF,AK] at hes
    obtain ⟨row',hrow',hes'⟩:=hes
    split at hes'
    ·simp only [Ah,AaG] at hes'
     obtain ⟨_,rfl⟩:=hes'
     obtain ⟨e,he,hxe⟩:=List.mem_flatten.1 hx
     exact hcl r _ hR hrow' e (List.mem_of_mem_drop (AbZ he)) x hxe n
    ·cases hes'
   have hli:=list (EB hl) hmem hr
   have hul:=HK hl hu1
   have hll:=(AI hl).1
   by_cases hne : es = []
   ·subst hne
    have : l = []:=Abf (by simpa using hll)
    subst this
    exact .sl [] ad cap 0 0 0 (fun _ _=>undef) hcap.1 hcap.2 (by simp) (by simp) (by cases hv with | sl _ _ _ _ _ _ ty' es' base' fz' _ _ hrow' h1 h2 h3 h4 h5 hn hb ha=>exact hn) (by simp) (by simp)
   ·obtain ⟨b,off,rfl,hcell,hb⟩:=hc hne
    obtain ⟨_,cf,hcf,hrf⟩:=RepL.toI hli
    rw [<- hll]
    refine .sl l _ cap esz1 b off (fun i j=>cf (i * esz1 + j)) (by omega) hcap.2 hul (fun _=>⟨rfl,?_⟩) ⟨_,rfl⟩ (fun i e j x hi hj=>?_) (fun i e j x hi hj=>hrf _ _ (CI hul hi hj))
    ·rcases hb with hb | ⟨r',hr',rfl,he⟩
     ·exact .inl hb
     ·simp only [Fy,List.cons.injEq,and_true] at he
      subst he
      exact .inr ⟨_,hR,hr',rfl⟩
    ·exact hcell _ _ (hcf _ _ (CI hul hi hj))
  | pt r ver ix off =>
   simp only [AaF,AK] at h
   obtain ⟨row,hrow,h⟩:=h
   split at h
   ·rename_i ty esz es0 base fz
    simp only [AaF,AaG] at h
    obtain ⟨cs,hcs,l,hl,rfl⟩:=h
    have hcs' : readA M (esz - off) (.pt r ver ix off) = some cs:=hcs
    obtain ⟨b,o,cells,rfl,_,hr,hcell,hb⟩:=GG hok (RepX.ofV (β:=β) hv) hcs'
    have hR : R r:=hin
    have hmem : ∀ x,x ∈ cs -> InN R n x:=fun x hx=>by
     simp only [readA,AK,hrow,AaR,Ah,AaJ] at hcs
     obtain ⟨_,_,hU,_⟩:=hok.rows r _ hrow
     obtain ⟨he,_⟩:=Mc hU hcs.2
     rw [he] at hx
     obtain ⟨e,he,hxe⟩:=List.mem_flatten.1 (List.mem_of_mem_drop (AbZ hx))
     exact hcl r _ hR hrow e he x hxe n
    obtain ⟨_,cf,hcf,hrf⟩:=RepL.toI (list hl hmem hr)
    refine .pt l b o cf ?_ (fun j x hj=>hcell _ _ (hcf _ _ hj)) (fun j x hj=>hrf _ _ hj)
    rcases hb rfl with hb | ⟨r',hr',rfl,he⟩
    ·exact .inl hb
    ·simp only [Fy,List.cons.injEq,and_true] at he
     subst he
     exact .inr ⟨_,hR,hr',rfl⟩
   ·cases h
  | mp r =>
   simp only [AaF,AK] at h
   obtain ⟨row,hrow,h⟩:=h
   split at h
   ·rename_i es0 fz
    simp only [AaF,AaG] at h
    obtain ⟨l,hl,rfl⟩:=h
    have hR : R r:=hin
    cases hv with | mp _ es' fz' hrow' =>
    obtain ⟨_,_,ents,clock,hh,⟨hlen,_⟩,hE⟩:=hok.rows r _ hrow
    obtain ⟨g1,g2⟩:=AI hl
    have each : ∀ (j : Nat) k x,l[j]? = some [k,x] -> ∃ ent,ents[j]? = some ent /\ RepI w (Sof S ρ M.H R) k ent.key /\ RepI w (Sof S ρ M.H R) x ent.val:=fun j k x hj=>by
     obtain ⟨p,hp,hf⟩:=g2 j _ hj
     obtain ⟨k0,x0⟩:=p
     simp only [AaF,AaG,List.cons.injEq,and_true] at hf
     obtain ⟨y,hy,rfl,rfl⟩:=hf
     obtain ⟨ent,h1,h2,h3⟩:=hE j _ _ hp
     exact ⟨ent,h1,toI h2,EP hok hcl n x0 _ _ hy (hcl r _ hR hrow (k0,x0) (AaS hp) n) h3⟩
    refine .mp l (ρ r) ents clock (fun j=>((ents[j]?).map (·.key)).getD undef) (fun j=>((ents[j]?).map (·.val)).getD undef) (.inr ⟨r,hR,(AaI.1 hrow).1,rfl⟩) hh (by omega) (fun j e hj=>?_) (fun j k x hj=>?_) (fun j k x hj=>?_) (fun j k x hj=>?_) (fun j k x hj=>?_)
    ·obtain ⟨p,_,hf⟩:=g2 j _ hj
     simp only [AaF,AaG] at hf
     obtain ⟨y,_,rfl⟩:=hf
     exact ⟨_,_,rfl⟩
    ·obtain ⟨ent,h1,_⟩:=each j k x hj; simp [h1]
    ·obtain ⟨ent,h1,_⟩:=each j k x hj; simp [h1]
    ·obtain ⟨ent,h1,h2,_⟩:=each j k x hj; simpa [h1] using h2
    ·obtain ⟨ent,h1,_,h2⟩:=each j k x hj; simpa [h1] using h2
   ·cases h
  | fn f cap =>
   simp only [AaF,AaG] at h
   obtain ⟨l,hl,rfl⟩:=h
   obtain ⟨hny,cs,rfl,hr⟩:=hv.fnL
   obtain ⟨h1,cf,hcf,hrf⟩:=RepL.toI (list hl hin hr)
   exact .fn f hny l cs (by simpa using h1) cf (fun j x hj=>by simpa using hcf j x hj) hrf
  | ag xs =>
   simp only [AaF,AaG] at h
   obtain ⟨l,hl,rfl⟩:=h
   obtain ⟨cs,rfl,hr⟩:=hv.agL
   obtain ⟨h1,cf,hcf,hrf⟩:=RepL.toI (list hl hin hr)
   exact .ag l cs (by simpa using h1) cf (fun j x hj=>by simpa using hcf j x hj) hrf
def IA : Row -> Prop
 | .cs _ _ es _ _=>∀ e,e ∈ es -> ∀ x,x ∈ e -> isM x = true
 | .mp es _=>∀ p,p ∈ es -> isM p.2 = true
 | .lp _ _ _ _ _ _=>True
theorem Ev {row row' : Row} (h : AD row = some row') : IA row /\ IA row':=by
 cases row with
 | cs ty esz es base fz =>
  simp only [AD,Ah,AaG] at h
  obtain ⟨h1,rfl⟩:=h
  have : ∀ e,e ∈ es -> ∀ x,x ∈ e -> isM x = true:=fun e he x hx=>AaZ.1 (AaZ.1 h1 e he) x hx
  exact ⟨this,this⟩
 | mp es fz =>
  simp only [AD,Ah,AaG] at h
  obtain ⟨h1,rfl⟩:=h
  have : ∀ p,p ∈ es -> isM p.2 = true:=fun p hp=>AaZ.1 h1 p hp
  exact ⟨this,this⟩
 | lp st pd E ps ca cb=>simp [AD] at h
theorem Po {α : Type} {l l' : List α} {i : Nat} {x : α} (h : Bw l i x = some l') : i < l.length /\ l' = l.set i x:=BJ h
theorem NX (hok : Ok w S ρ β M) {r : Nat} {row row' : Row} (hrow : M.H[r]? = some row) (h : AD row = some row') :
  Ok w (fun b=>S b \/ b = ρ r) ρ β { M with H:=M.H.set r row' } /\ Stp w S ρ β M w (fun b=>S b \/ b = ρ r) ρ (M.H.set r row'):=by
 have hρ : (fun k=>if k = r then ρ r else ρ k) = ρ:=by
  funext k
  by_cases c : k = r
  ·rw [AaN c,c]
  ·rw [AaL c]
 have key:=Ok.setRow (w':=w) (S':=fun b=>S b \/ b = ρ r) (g:=ρ r) (row':=row') hok hrow ⟨⟨rfl,rfl,rfl,AaQ _,fun _ _ _=>rfl⟩,fun _=>AaQ _⟩ (.inl rfl) (fun b h=>.inl h) (fun b h=>h) (fun _ _=>rfl)
  (fun ty esz es base fz e=>by
   subst e
   simp only [AD,Ah,AaG] at h
   obtain ⟨_,rfl⟩:=h
   exact ⟨es,base,true,rfl,AaQ _,AaQ _,fun b ver _ _ hA=>hA.same (fun _ _=>rfl) (fun _ h=>.inl h) rfl,fun _=>⟨rfl,fun cur mk hh=>⟨cur,mk,hh,rfl⟩⟩⟩)
  (fun es fz e=>by
   subst e
   simp only [AD,Ah,AaG] at h
   obtain ⟨_,rfl⟩:=h
   exact ⟨rfl,es,true,rfl⟩)
  (fun hto=>by
   have hR:=hok.rows r row hrow
   rw [hρ] at hto ⊢
   cases row with
   | cs ty esz es base fz =>
    simp only [AD,Ah,AaG] at h
    obtain ⟨_,rfl⟩:=h
    obtain ⟨h1,h2,h3,h4,h5,cur,cap,mk,h6,h7,h8,h9,h10,h11⟩:=hR
    exact ⟨h1,h2,h3,fun _=>.inr rfl,fun e=>(by cases e),cur,cap,mk,h6,fun e=>(by cases e),h8,h9,h10,h11.mono hto⟩
   | mp es fz =>
    simp only [AD,Ah,AaG] at h
    obtain ⟨_,rfl⟩:=h
    obtain ⟨h4,h5,ents,clock,h6,h7,h8⟩:=hR
    refine ⟨fun _=>.inr rfl,fun e=>(by cases e),ents,clock,h6,h7,fun j k x hj=>?_⟩
    obtain ⟨ent,hent,hk,hx⟩:=h8 j k x hj
    exact ⟨ent,hent,hk.mono hto.hw hto.hS,hx.mono hto⟩
   | lp st pd E ps ca cb=>simp [AD] at h)
  (fun st pd E ps ca cb e=>by subst e; simp [AD] at h)
 rw [hρ] at key
 exact key
theorem Stp.transW {S' S'' : Nat -> Prop} {H' H'' : Hp} {β' : Nat -> Nat} {B' : List (Nat × List V)} (h : Stp w S ρ β M w S' ρ H') (k : Stp w S' ρ β' ⟨B',H'⟩ w S'' ρ H'') (hl : H'.length = M.H.length) (hn : ∀ b,S'' b -> S' b \/ ∃ r,r < H'.length /\ b = ρ r) (hn' : H''.length = H'.length) : Stp w S ρ β M w S'' ρ H'' where
 vals v c hv:=k.vals v c (h.vals v c hv)
 stab b hb:=k.stab b (h.stab b hb)
 heap _ _:=rfl
 keep _ _ _ _:=rfl
 news b hb:=by
  rcases hn b hb with hb | ⟨r,hr,e⟩
  ·exact h.news b hb
  ·exact .inr (.inr ⟨r,by omega,e⟩)
 rown r hr:=.inl ⟨r,by omega,rfl⟩
 size:=AaQ _
 os:=rfl
 tape:=rfl
 output:=rfl
 drawn:=fun _=>AaQ _
theorem Xr {R : Nat -> Prop} (hR : ∀ r,¬ R r) : Sof S ρ H R = S:=by
 funext b
 apply propext
 constructor
 ·rintro (h | ⟨r,h,_⟩)
  ·exact h
  ·exact absurd h (hR r)
 ·exact .inl
theorem Eg : ∀ (rs : List Nat) {S : Nat -> Prop} {M : Mem} {H' : Hp},Ok w S ρ β M -> AO rs M.H = some H' ->
  Ok w (Sof S ρ M.H (· ∈ rs)) ρ β { M with H:=H' } /\ Stp w S ρ β M w (Sof S ρ M.H (· ∈ rs)) ρ H' /\ H'.length = M.H.length /\ ∀ r,r ∈ rs -> ∃ row,M.H[r]? = some row /\ IA row
 | [],S,M,H',hok,h=>by
  simp only [AO,AaG] at h
  subst h
  rw [Xr (by simp)]
  exact ⟨hok,Stp.refl _ _ _ _ _,rfl,by simp⟩
 | r :: rs,S,M,H',hok,h=>by
  simp only [AO,AaF,AK] at h
  obtain ⟨row,hrow,row',hrow',H1,hH1,h⟩:=h
  obtain ⟨hrl,rfl⟩:=Po hH1
  obtain ⟨hok1,hst1⟩:=NX hok hrow hrow'
  obtain ⟨hok2,hst2,hl2,hf2⟩:=Eg rs hok1 h
  have hSe : Sof (fun b=>S b \/ b = ρ r) ρ (M.H.set r row') (· ∈ rs) = Sof S ρ M.H (· ∈ r :: rs):=by
   funext b
   apply propext
   simp only [Sof,List.length_set,Abd]
   constructor
   ·rintro ((h | h) | ⟨k,h1,h2,h3⟩)
    ·exact .inl h
    ·exact .inr ⟨r,.inl rfl,hrl,h⟩
    ·exact .inr ⟨k,.inr h1,h2,h3⟩
   ·rintro (h | ⟨k,rfl | h1,h2,h3⟩)
    ·exact .inl (.inl h)
    ·exact .inl (.inr h3)
    ·exact .inr ⟨k,h1,h2,h3⟩
  simp only at hok2 hst2 hl2
  rw [hSe] at hok2 hst2
  simp only [List.length_set] at hl2
  refine ⟨hok2,Stp.transW hst1 hst2 (by simp) (fun b hb=>?_) (by simpa using hl2),hl2,fun k hk=>?_⟩
  ·rw [<- hSe] at hb
   rcases hb with hb | ⟨k,_,h2,h3⟩
   ·exact .inl hb
   ·exact .inr ⟨k,h2,h3⟩
  ·rcases Abd.1 hk with rfl | hk
   ·exact ⟨row,hrow,(Ev hrow').1⟩
   ·obtain ⟨row2,h1,h2⟩:=hf2 k hk
    by_cases c : k = r
    ·subst c
     exact ⟨row,hrow,(Ev hrow').1⟩
    ·simp only [AbM (Ne.symm c)] at h1
     exact ⟨row2,h1,h2⟩
theorem JF {R : Nat -> Prop} {x : V} (h : isM x = true) (n : Nat) : InN R n x:=by
 cases n with
 | zero=>exact AbL
 | succ n=>cases x <;> first | exact AbL | (simp [isM] at h)
theorem HD {R : Nat -> Prop} (h : ∀ r,R r -> ∃ row,H[r]? = some row /\ IA row) : OJ R H:=fun r row hr hrow=>by
 obtain ⟨row',h1,h2⟩:=h r hr
 rw [hrow] at h1
 cases h1
 cases row with
 | cs ty esz es base fz=>exact fun e he x hx n=>JF (h2 e he x hx) n
 | mp es fz=>exact fun p hp n=>JF (h2 p hp) n
 | lp st pd E ps ca cb=>exact AbL
theorem GP : ∀ (n : Nat) (v : V),InN (fun _=>True) n v
 | 0,_=>AbL
 | n + 1,v=>by cases v <;> first | exact AbL | exact fun x _=>GP n x
theorem HC : OJ (fun _=>True) H:=fun r row _ _=>by
 cases row with
 | cs ty esz es base fz=>exact fun e _ x _ n=>GP n x
 | mp es fz=>exact fun p _ n=>GP n p.2
 | lp st pd E ps ca cb=>exact AbL
theorem Fw {x : V} (h : CE x = true) {rs : List Nat} (hr : ∀ r,r ∈ DG x -> r ∈ rs) (n : Nat) : InN (· ∈ rs) n x:=by
 have one : ∀ (x : V) (n : Nat),CP x = true -> (∀ r,r ∈ Fy x -> r ∈ rs) -> InN (· ∈ rs) n x:=fun x n h hr=>by
  cases n with
  | zero=>exact AbL
  | succ n=>cases x <;> first | exact AbL | (simp [CP] at h; done) | exact hr _ (by simp [Fy])
 cases n with
 | zero=>exact AbL
 | succ n =>
  cases x with
  | fn f cap=>exact fun y hy=>one y n (AaZ.1 h y hy) fun r hr'=>hr r (List.mem_flatMap.2 ⟨y,hy,hr'⟩)
  | ag cs=>exact fun y hy=>one y n (AaZ.1 h y hy) fun r hr'=>hr r (List.mem_flatMap.2 ⟨y,hy,hr'⟩)
  | _=>exact one _ (n + 1) h hr
end
end Go.Mx
/- Operations that make memory: each against the model's. -/
namespace Go.Mx
section
variable {P : Program} {w : World} {S : Nat -> Prop} {ρ β : Nat -> Nat} {M M' : Mem} {H : Hp} {o : Oper} {a : Act} {vs : List V} {v : V} {call : Bp}
theorem Eb (w : World) (t : TypeId) (x : Value) : (newVar t x).run P w = .ok ⟨w.heap.size,0,none⟩ (w.alloc (.cells x.cells t)):=rfl
theorem Qr {t : TypeId} {x : Value} {d : Nat} {cs : List V} {op : OL} (hd : dof (.l op) = some d) (hok : Ok w S ρ β M) (hr : RepL w S ρ M.H cs x.cells.toList) (hrun : (execOp a.eval o).run P w = .ok (.value (.pointer (some ⟨w.heap.size,0,none⟩))) (w.alloc (.cells x.cells t))) :
  Outc w S ρ β M (.l op) (.fa d 0) { M with B:=DB M.B d cs } ((execOp a.eval o).run P w):=by
 have hS : ¬ S w.heap.size:=fun h=>by have:=hok.lt _ h; omega
 obtain ⟨hok',hst⟩:=Ok.newBox (w':=w.alloc (.cells x.cells t)) (S':=S) (d:=d) (g:=w.heap.size) hok (Gw.alloc w _ none) (fun _ h=>h) (fun b h=>.inl h) (fun b h=>by have:=hok.lt b h; simp; omega)
  (AaQ _) hS (heap_alloc_new w _) hr
 refine ⟨_,.pointer (some ⟨w.heap.size,0,none⟩),_,_,_,_,hrun,.inl rfl,hok',hst,?_,fun k hk=>?_,fun k hk=>?_⟩
 ·simp [RepX]
 ·rw [hd] at hk
  rw [AaL (fun e=>hk (by rw [e]))]
 ·by_cases c : k = d
  ·exact .inr (by rw [AaN c]; exact AaQ _)
  ·refine .inl ⟨k,?_,AaL c⟩
   simp only [Bn,AaL c] at hk
   exact hk
theorem VA {t : TypeId} {d : Nat} {zs : List V} (ho : o.op = .alloc t) (hz : CM P t = some zs) (hok : Ok w S ρ β M) (he : Am call M (.alp d zs) vs = some (v,M')) :
  Outc w S ρ β M (.l (.alp d zs)) v M' ((execOp a.eval o).run P w):=by
 obtain ⟨i,z,hi,hz1,hz2,hz3,hz4⟩:=Cm hz
 cases vs with
 | cons x r=>simp [Am] at he
 | nil =>
  simp only [Am,AaG,AaH] at he
  obtain ⟨rfl,rfl⟩:=he
  exact Qr (t:=t) rfl hok (hz4 w S ρ M.H) (by simp [execOp,ho,Instr.alloc,AZ hi hz1,Eb])
theorem Vv {t : TypeId} {x : Operand} {d s : Nat} (ho : o.op = .box t x) (hok : Ok w S ρ β M) (hv : All2 (RepX w S ρ β M.H) vs [a.eval x]) (he : Am call M (.bxp d s) vs = some (v,M')) :
  Outc w S ρ β M (.l (.bxp d s)) v M' ((execOp a.eval o).run P w):=by
 cases hv with | cons h t1 =>
 cases t1
 simp only [Am,AaF,Ah,AaG,AaH] at he
 obtain ⟨cs,hcs,_,rfl,rfl⟩:=he
 exact Qr (t:=t) rfl hok (RepX.cells h hcs) (by simp [execOp,ho,Instr.box,Eb])
theorem SA {op : OL} {ty esz cap : Nat} {es : List (List V)} {cur : Array Value} {val : V} {c : Value} {w' : World} {mk : Nat × Nat} (hok : Ok w S ρ β M) (hpos : 0 < esz) (hu : Uni esz es) (hg : Gw w w' none) (hsz : w'.heap.size = w.heap.size + 1) (hcur : w'.heap[w.heap.size]? = some (.cells cur ty mk))
  (hcap : es.length <= cap) (hcm : cap <= maxLen) (hcs : cur.size = cap * esz) (hr : RepL w S ρ M.H es.flatten (cur.toList.take (es.length * esz)))
  (hrun : (execOp a.eval o).run P w = .ok (.value c) w')
  (hval : ∀ ρ',ρ' M.H.length = w.heap.size -> RepV w' S ρ' (M.H ++ [.cs ty esz es 0 false]) val c) (hwin : Win cur.size mk) :
  Outc w S ρ β M (.l op) val { M with H:=M.H ++ [.cs ty esz es 0 false] } ((execOp a.eval o).run P w):=by
 have hS : ¬ S w.heap.size:=fun h=>by have:=hok.lt _ h; omega
 obtain ⟨hok',hst⟩:=Ok.newRow (w':=w') (S':=S) (g:=w.heap.size) (row:=.cs ty esz es 0 false) hok hg (fun _ h=>h) (fun b h=>.inl h) (fun b h=>by have:=hok.lt b h; omega) (AaQ _)
  (fun hto=>⟨AaT _,hpos,hu,fun e=>(by cases e),fun _=>by simpa using hS,cur,cap,mk,by simpa using hcur,fun _=>hwin,hcs,hcap,hcm,hr.mono hto⟩)
 exact ⟨_,c,_,_,_,_,hrun,.inl rfl,hok',hst,RepX.ofV (hval _ (by simp)),fun _ _=>rfl,fun k hk=>.inl ⟨k,hk,rfl⟩⟩
theorem KS {op : OL} {ty esz cap : Nat} {es : List (List V)} {cur : Array Value} {val : V} {c : Value} {w' : World} (hok : Ok w S ρ β M) (hpos : 0 < esz) (hu : Uni esz es) (hg : Gw w w' none) (hsz : w'.heap.size = w.heap.size + 1) (hcur : w'.heap[w.heap.size]? = some (.cells cur ty (0,0)))
  (hcap : es.length <= cap) (hcm : cap <= maxLen) (hcs : cur.size = cap * esz) (hr : RepL w S ρ M.H es.flatten (cur.toList.take (es.length * esz)))
  (hrun : (execOp a.eval o).run P w = .ok (.value c) w')
  (hval : ∀ ρ',ρ' M.H.length = w.heap.size -> RepV w' S ρ' (M.H ++ [.cs ty esz es 0 false]) val c) :
  Outc w S ρ β M (.l op) val { M with H:=M.H ++ [.cs ty esz es 0 false] } ((execOp a.eval o).run P w) :=
 SA hok hpos hu hg hsz hcur hcap hcm hcs hr hrun hval (.inl rfl)
theorem Iq (H : Hp) (row : Row) : (H ++ [row])[H.length]? = some row:=by simp
theorem QF {op : OL} {t : TypeId} {x : Value} {esz n : Nat} {cs : List V} (hok : Ok w S ρ β M) (hr : RepL w S ρ M.H cs x.cells.toList) (h1 : cs.length = n * esz) (h2 : 1 <= esz) (h3 : 1 <= n) (h4 : n <= 9223372036854775807)
  (hrun : (execOp a.eval o).run P w = .ok (.value (.pointer (some ⟨w.heap.size,0,none⟩))) (w.alloc (.cells x.cells t))) :
  Outc w S ρ β M (.l op) (.pt M.H.length n 0 0) { M with H:=M.H ++ [.cs t esz (BK esz n cs) 0 false] } ((execOp a.eval o).run P w):=by
 have hl:=Fi esz n cs
 have hlx:=hr.1
 have hf : (BK esz n cs).flatten = cs:=by rw [Ei esz n cs (by omega),<- h1,Aby]
 refine KS (cap:=n) hok h2 (Fh esz n cs (by omega)) (Gw.alloc w _ none) (by simp) (heap_alloc_new w _) (by omega) (by unfold maxLen; omega) (by simp at hlx; omega)
  (by rw [hf,hl,Abc (by omega)]; exact hr) hrun (fun ρ' hρ=>?_)
 refine .pt M.H.length n 0 0 t esz (BK esz n cs) 0 false _ (Iq _ _) (by omega) (by omega) (fun _=>⟨w.heap.size,by simp,.inl hρ.symm⟩)
theorem Vz {t : TypeId} {esz n : Nat} {zs : List V} (ho : o.op = .alloc t) (hz : CM P t = some zs) (hok : Ok w S ρ β M) (he : Am call M (.als t esz n zs) vs = some (v,M')) :
  Outc w S ρ β M (.l (.als t esz n zs)) v M' ((execOp a.eval o).run P w):=by
 obtain ⟨i,z,hi,hz1,hz2,hz3,hz4⟩:=Cm hz
 cases vs with
 | cons x r=>simp [Am] at he
 | nil =>
  simp only [Am,Ah,AaJ,AaV,Abv,AaG,AaH] at he
  obtain ⟨⟨⟨⟨h1,h2⟩,h3⟩,h4⟩,rfl,rfl⟩:=he
  exact QF hok (hz4 w S ρ M.H) h1 h2 h3 h4 (by simp [execOp,ho,Instr.alloc,AZ hi hz1,Eb])
theorem Vu {t : TypeId} {x : Operand} {esz n : Nat} (ho : o.op = .box t x) (hok : Ok w S ρ β M) (hv : All2 (RepX w S ρ β M.H) vs [a.eval x]) (he : Am call M (.bxs t esz n) vs = some (v,M')) :
  Outc w S ρ β M (.l (.bxs t esz n)) v M' ((execOp a.eval o).run P w):=by
 cases hv with | cons h t1 =>
 cases t1
 simp only [Am,AaF,Ah,AaJ,AaV,Abv,AaG,AaH] at he
 obtain ⟨cs,hcs,⟨⟨⟨h1,h2⟩,h3⟩,h4⟩,rfl,rfl⟩:=he
 exact QF hok (RepX.cells h hcs) h1 h2 h3 h4 (by simp [execOp,ho,Instr.box,Eb])
theorem Vf {t k e : TypeId} {r : Option Operand} (ho : o.op = .makeMap t r) (hu : P.underlying t = some (.map k e)) (hok : Ok w S ρ β M) (hv : All2 (RepX w S ρ β M.H) vs (r.toList.map a.eval)) (he : Am call M .mkm vs = some (v,M')) :
  Outc w S ρ β M (.l .mkm) v M' ((execOp a.eval o).run P w):=by
 have hS : ¬ S w.heap.size:=fun h=>by have:=hok.lt _ h; omega
 have main : (execOp a.eval o).run P w = .ok (.value (.map (some w.heap.size))) (w.alloc (.map #[] 0)) -> Outc w S ρ β M (.l .mkm) (.mp M.H.length) { M with H:=M.H ++ [.mp [] false] } ((execOp a.eval o).run P w):=fun hrun=>by
  obtain ⟨hok',hst⟩:=Ok.newRow (w':=w.alloc (.map #[] 0)) (S':=S) (g:=w.heap.size) (row:=.mp [] false) hok (Gw.alloc w _ none) (fun _ h=>h) (fun b h=>.inl h) (fun b h=>by have:=hok.lt b h; simp; omega) (AaQ _)
   (fun hto=>⟨fun e=>(by cases e),fun _=>by simpa using hS,#[],0,by simpa using heap_alloc_new w _,⟨rfl,fun _ h=>(by simp at h),by simp⟩,by simp⟩)
  refine ⟨_,_,_,_,_,_,hrun,.inl rfl,hok',hst,RepX.ofV ?_,fun _ _=>rfl,fun k hk=>.inl ⟨k,hk,rfl⟩⟩
  have:=RepV.mp (w:=w.alloc (.map #[] 0)) (S:=S) (ρ:=fun r=>if r = M.H.length then w.heap.size else ρ r) (H:=M.H ++ [.mp [] false]) M.H.length [] false (Iq _ _)
  simpa using this
 cases r with
 | none =>
  cases hv
  simp only [Am,AaG,AaH] at he
  obtain ⟨rfl,rfl⟩:=he
  exact main (by simp [execOp,ho,Instr.makeMap])
 | some x =>
  obtain ⟨c,hc,h⟩ : ∃ c,vs = [c] /\ RepX w S ρ β M.H c (a.eval x):=by
   cases hv with | cons h t=>cases t; exact ⟨_,rfl,h⟩
  subst hc
  simp only [Am] at he
  split at he
  ·simp only [AaG,AaH] at he
   obtain ⟨rfl,rfl⟩:=he
   have hx:=BY (RepX.toV rfl h)
   exact main (by simp [execOp,ho,Instr.makeMap,run_underlying hu,hx,asInt,asIntOf])
  ·cases he
theorem Ve {t e : TypeId} {esz bytes : Nat} {zs : List V} {x y : Operand} (ho : o.op = .makeSlice t x y) (hu : P.underlying t = some (.slice e)) (hz : CM P e = some zs) (hs : Bi P e = some esz) (hb : HW P e = some bytes)
  (hok : Ok w S ρ β M) (hv : All2 (RepX w S ρ β M.H) vs [a.eval x,a.eval y]) (he : Am call M (.mks e esz zs bytes) vs = some (v,M')) :
  Outc w S ρ β M (.l (.mks e esz zs bytes)) v M' ((execOp a.eval o).run P w):=by
 cases hv with | cons h t1 =>
 cases t1 with | cons h1 t2 =>
 cases t2
 obtain ⟨i,z,hi,hz1,hz2,hz3,hz4⟩:=Cm hz
 obtain ⟨i1,hi1,rfl⟩:=AB.1 hs
 obtain ⟨i2,hi2,rfl⟩:=Hc.1 hb
 rw [hi] at hi1 hi2
 cases hi1; cases hi2
 simp only [Am] at he
 split at he
 ·rename_i c
  simp only [AaF,Ah,AaJ,AaV,Abv,AaG,AaH] at he
  obtain ⟨n,hn,⟨⟨⟨g1,g2⟩,g3⟩,g4⟩,rfl,rfl⟩:=he
  obtain ⟨k,hx,hnc⟩:=CT h hn
  have hy:=BY (RepX.toV rfl h1)
  have hrun:=run_make (P:=P) w t e i z hu hi hz1 k .i64 (n : Int) (c : Int) (by omega) (by omega) (by
   have g1' : i.bytes * c <= 281474976710656:=by rw [Aca]; exact g1
   have : ((i.bytes * c : Nat) : Int) <= 281474976710656:=by omega
   rwa [Int.natCast_mul] at this) (by omega)
  simp only [Int.toNat_natCast] at hrun
  have hu' : Uni i.size (List.replicate n zs):=Uni.replicate hz3
  have hle : n * i.size <= c * i.size:=Abg _ hnc
  have hcells : ((madeCells z.cells (c * i.size)).toList.take (n * i.size)) = (List.replicate n z.cells.toList).flatten:=by
   have:=Ma z.cells c (by omega)
   rw [hz2] at this
   have hm : (madeCells z.cells (c * i.size)).toList = (List.replicate c z.cells.toList).flatten:=by
    rw [<- this]
    simp [madeCells,hz2]
   rw [hm]
   have hu2 : Uni i.size (List.replicate c z.cells.toList):=Uni.replicate (by simpa using hz2)
   rw [<- DR hu2,List.take_replicate,Nat.min_eq_left hnc]
  refine KS (cap:=c) (cur:=madeCells z.cells (c * i.size)) (c:=.slice (some ⟨w.heap.size,0,none⟩) n c) hok g3 hu' (Gw.alloc w _ none) (by simp) (heap_alloc_new w _) (by simpa using hnc) (by unfold maxLen; omega) (size_madeCells _ _) ?_ (by simp [execOp,ho,hx,hy,hrun]) (fun ρ' hρ=>?_)
  ·rw [List.length_replicate,hcells]
   clear hrun hcells hle hn hnc hu' hx
   induction n with
   | zero=>simpa using RepL.nil
   | succ n ih=>rw [List.replicate_succ,List.replicate_succ,AbA,AbA]; exact (hz4 w S ρ M.H).append ih
  ·refine .sl M.H.length n i.size 0 n _ e (List.replicate n zs) 0 false _ c (Iq _ _) (by omega) (by simp) hnc (by unfold maxLen; omega) (fun hl=>?_) ⟨_,rfl⟩ (fun _ _=>⟨w.heap.size,by simp,.inl hρ.symm⟩) (fun _ _ _ _=>⟨by rw [hρ],_,(0,0),by rw [hρ]; exact heap_alloc_new w _,size_madeCells _ _⟩)
   rw [AaV] at hl
   exact hl.symm
 ·cases he
end
end Go.Mx
/- Stores. -/
namespace Go.Mx
section
variable {P : Program} {w : World} {S : Nat -> Prop} {ρ β : Nat -> Nat} {M M' : Mem} {H : Hp} {o : Oper} {a : Act} {vs : List V} {v : V} {call : Bp}
theorem cut3 {α : Type} (F X : List α) (p N : Nat) (h : p + X.length <= N) (hN : N <= F.length) : (F.take p ++ X ++ F.drop (p + X.length)).take N = (F.take N).take p ++ X ++ (F.take N).drop (p + X.length):=by
 have h1 : (F.take p ++ X).length = p + X.length:=by rw [AaX,AaW]; omega
 rw [List.take_append,h1,Abc (by omega),List.take_take,Nat.min_eq_left (by omega),List.drop_take]
theorem Pa {esz ix off : Nat} {es es' : List (List V)} {xs : List V} (hu : Uni esz es) (h : EN esz es ix off xs = some es') :
  es'.flatten = es.flatten.take (ix * esz + off) ++ xs ++ es.flatten.drop (ix * esz + off + xs.length) /\ Uni esz es' /\ es'.length = es.length /\ ix * esz + off + xs.length <= es.length * esz:=by
 unfold EN at h
 split at h
 ·rename_i hb
  rw [Abv] at hb
  simp only [AaF,AK,FA,Ah,Abv,AaG] at h
  obtain ⟨e,he,e',⟨hle,rfl⟩,hset⟩:=h
  obtain ⟨hlt,rfl⟩:=BJ hset
  have hel:=hu.get he
  have hi : (ix + off / esz) * esz + off % esz = ix * esz + off:=by
   have:=Nat.div_add_mod off esz
   rw [Abm,Aca (off / esz) esz]
   omega
  have hmul : (ix + off / esz) * esz + esz <= es.length * esz:=by
   have:=Abg esz (Nat.succ_le_of_lt hlt)
   rw [Nat.succ_mul] at this
   exact this
  have hlen' : (e.take (off % esz) ++ xs ++ e.drop (off % esz + xs.length)).length = esz:=by
   simp only [AaX,AaW,Abt]
   omega
  refine ⟨?_,hu.set hlen',by simp,by omega⟩
  rw [Ix hu hlt hlen']
  have hge:=Gl hu he
  generalize hF : es.flatten = F at hge
  have hFl : F.length = es.length * esz:=by rw [<- hF]; exact hu.len
  generalize (ix + off / esz) * esz = q at hge hi hmul
  have a1 : F.take q ++ e.take (off % esz) = F.take (ix * esz + off):=by
   rw [hge,List.take_take,Nat.min_eq_left (by omega),<- hi,List.take_add]
  have a2 : e.drop (off % esz + xs.length) ++ F.drop (q + esz) = F.drop (ix * esz + off + xs.length):=by
   rw [hge,<- hi]
   have : F.drop (q + esz) = (F.drop q).drop esz:=by rw [List.drop_drop]
   rw [this,<- List.drop_append_of_le_length (by rw [AaW,Abt]; omega),List.take_append_drop,List.drop_drop]
   congr 1
   omega
  rw [<- a1,<- a2]
  simp only [AbG]
 ·simp only [AaF,FA,Ah,Abv,AaG] at h
  obtain ⟨l,⟨hle,rfl⟩,rfl⟩:=h
  rw [hu.len] at hle
  have hl : (es.flatten.take (ix * esz + off) ++ xs ++ es.flatten.drop (ix * esz + off + xs.length)).length = es.length * esz:=by
   simp only [AaX,AaW,Abt,hu.len]
   omega
  refine ⟨?_,Fh esz _ _ (by omega),Fi ..,hle⟩
  rw [Ei esz _ _ (by omega),Abc (by omega)]
theorem PE {x : V} {c : Value} (h : CS x = true) (hx : RepV w S ρ H x c) : c.oneCell' = true:=by
 cases hx with
 | m hI=>cases hI <;> first | rfl | (simp [CS] at h)
 | un=>simp [CS] at h
 | ag xs cs hl c hc hr=>simp [CS] at h
 | tu xs cs hl c hc hr=>simp [CS] at h
 | _=>rfl
theorem EC {xs : List V} {cs : List Value} (h : xs.all CS = true) (hx : RepL w S ρ H xs cs) : ∀ c,c ∈ cs -> c.oneCell' = true:=by
 induction xs generalizing cs with
 | nil=>rw [hx.inv_nil]; simp
 | cons x xs ih =>
  obtain ⟨c,r,rfl,h1,h2⟩:=hx.inv_cons
  simp only [List.all_cons,AaJ] at h
  intro d hd
  rcases Abd.1 hd with rfl | hd
  ·exact PE h.1 h1
  ·exact ih h.2 h2 d hd
theorem DP (w : World) (g : Nat) (cs : Array Value) : Gw w (w.setRow g cs) (some g) :=
 ⟨⟨rfl,rfl,rfl,by simp,fun k _ hk=>setRow_other w g k cs (fun e=>hk (by rw [e]))⟩,fun _=>AaQ _⟩
theorem NF {w : World} {g j : Nat} {cur : Array Value} {ty : TypeId} {mk : Nat × Nat} (hh : w.heap[g]? = some (.cells cur ty mk)) (hw : Win cur.size mk) (hj : j < cur.size) : w.frozen? ⟨g,j,none⟩ = false:=by
 obtain ⟨lo,hi⟩:=mk
 simp only [World.frozen?,hh,Bool.and_eq_false_iff,decide_eq_false_iff_not]
 rcases hw with hw | hw
 ·cases hw
  omega
 ·simp only at hw
  omega
theorem Bt (P : Program) (g o : Nat) (t : TypeId) (mk : Nat × Nat) : ∀ (vs : List Value) (i : Nat) (cur : Array Value) (w : World),w.heap[g]? = some (.cells cur t mk) -> Win cur.size mk -> o + i + vs.length <= cur.size -> (∀ v ∈ vs,v.oneCell' = true) ->
  (storeCells ⟨g,o,none⟩ vs i).run P w = .ok () (w.setRow g (cur.toList.take (o + i) ++ vs ++ cur.toList.drop (o + i + vs.length)).toArray)
 | [],i,cur,w,hg,_,_,_=>by
  simp only [storeCells,AbI,AbP,Nat.add_zero,List.take_append_drop,Array.toArray_toList]
  rw [setRow_self w g cur t mk hg]
  rfl
 | v :: rest,i,cur,w,hg,hw,hl,h1=>by
  have hi : o + i < cur.size:=by simp at hl; omega
  have hadd : (⟨g,o,none⟩ : Addr).add i = ⟨g,o + i,none⟩:=by unfold Addr.add; split <;> simp_all
  have hcell : w.cell? ⟨g,o + i,none⟩ = some cur[o + i]:=by simp [World.cell?,hg,hi]
  have hfro:=NF hg hw hi
  have hst : (store ((⟨g,o,none⟩ : Addr).add i) v).run P w = .ok () (w.setRow g (cur.setIfInBounds (o + i) v)):=by
   rw [hadd,run_store P w _ v _ (h1 v (by simp)),hcell]
   simp [hfro,setCell_eq_setRow w g (o + i) cur t mk v hg]
  have ih:=Bt P g o t mk rest (i + 1) (cur.setIfInBounds (o + i) v) (w.setRow g (cur.setIfInBounds (o + i) v)) (setRow_heap w g cur _ t _ hg) (by simpa using hw) (by simp at hl ⊢; omega) (fun x hx=>h1 x (by simp [hx]))
  simp only [storeCells,Sem.run_bind,hst,Result.andThen_ok,ih,setRow_setRow]
  congr 3
  have e:=list_seg_step cur.toList (o + i) v rest (by simp at hl ⊢; omega)
  simpa [Array.toList_setIfInBounds,Nat.add_assoc] using e
theorem Pn {r ty esz : Nat} {es es' : List (List V)} {base : Nat} {cur : Array Value} {arr : Array Value} {cap : Nat} {mk : Nat × Nat} (hok : Ok w S ρ β M) (hrow : M.H[r]? = some (.cs ty esz es base false)) (hh : w.heap[ρ r]? = some (.cells cur ty mk)) (hw : Win cur.size mk)
  (hU : Uni esz es') (hlen : es'.length = es.length) (hcs : arr.size = cur.size) (hcap : cur.size = cap * esz) (hle : es.length <= cap) (hcm : cap <= maxLen) (hr : RepL w S ρ M.H es'.flatten (arr.toList.take (es.length * esz))) :
  Ok (w.setRow (ρ r) arr) S ρ β { M with H:=M.H.set r (.cs ty esz es' es.length false) } /\ Stp w S ρ β M (w.setRow (ρ r) arr) S ρ (M.H.set r (.cs ty esz es' es.length false)):=by
 obtain ⟨hb,hpos,_,_,hns,_⟩:=hok.rows r _ hrow
 have hnS:=hns rfl
 have hρ : (fun k=>if k = r then ρ r else ρ k) = ρ:=by
  funext k
  by_cases c : k = r
  ·rw [AaN c,c]
  ·rw [AaL c]
 have hh':=setRow_heap w (ρ r) cur arr ty mk hh
 have key:=Ok.setRow (w':=w.setRow (ρ r) arr) (S':=S) (g:=ρ r) (row':=.cs ty esz es' es.length false) hok hrow (DP w _ arr) (.inl rfl) (fun _ h=>h) (fun b h=>.inl h)
  (fun b hb=>setRow_other w _ b arr (fun e=>hnS (e ▸ hb)))
  (fun ty1 esz1 es1 base1 fz1 e=>by
   cases e
   refine ⟨es',es.length,false,rfl,by omega,hb,fun b ver h1 h2 hA=>?_,fun _=>⟨rfl,fun cur1 mk1 h1=>?_⟩⟩
   ·rcases hA with hA | ⟨_,hne,_⟩
    ·exact .inl hA
    ·omega
   ·rw [hh] at h1
    cases h1
    exact ⟨arr,mk,hh',hcs⟩)
  (fun es1 fz1 e=>by cases e)
  (fun hto=>by
   rw [hρ] at hto ⊢
   exact ⟨by omega,hpos,hU,fun e=>(by cases e),fun _=>hnS,arr,cap,mk,hh',fun _=>(by rw [hcs]; exact hw),by omega,by omega,hcm,by rw [hlen]; exact hr.mono hto⟩)
 rw [hρ] at key
 exact key
theorem Pg {t : TypeId} {x y : Operand} {s : Nat} (ho : o.op = .store t x y) (hs : Bi P t = some s) (hok : Ok w S ρ β M) (hv : All2 (RepX w S ρ β M.H) vs [a.eval x,a.eval y]) (he : Am call M (.st s) vs = some (v,M')) :
  Outc w S ρ β M (.l (.st s)) v M' ((execOp a.eval o).run P w):=by
 cases hv with | cons h t1 =>
 cases t1 with | cons h1 t2 =>
 cases t2
 obtain ⟨i,hi,rfl⟩:=AB.1 hs
 simp only [Am,AaF,Ah,AaJ,AaV,AaG,AaH] at he
 obtain ⟨xs,hxs,⟨hl,hone⟩,M1,hw,rfl,rfl⟩:=he
 have hX:=RepX.cells h1 hxs
 have hXl:=hX.1
 have hX1:=EC hone hX
 simp only [Abp] at hXl
 have run : ∀ (b off : Nat) (cur : Array Value) (T : TypeId) (mk : Nat × Nat),a.eval x = .pointer (some ⟨b,off,none⟩) -> w.heap[b]? = some (.cells cur T mk) -> Win cur.size mk -> off + xs.length <= cur.size ->
   (execOp a.eval o).run P w = .ok .skip (w.setRow b (cur.toList.take off ++ (a.eval y).cells.toList ++ cur.toList.drop (off + xs.length)).toArray):=fun b off cur T mk hx hh hwin hle=>by
  have hst:=Bt P b off T mk (a.eval y).cells.toList 0 cur w hh hwin (by simp; omega) hX1
  simp only [Nat.add_zero,Abp,hXl] at hst
  have hne : ¬ (a.eval y).cells.size ≠ i.size:=by omega
  simp only [execOp,ho,hx,Instr.storeAt,Instr.sureAddr,storeVar,Sem.run_bind,Sem.run_pure,Result.andThen_ok,AA hi,AaL hne,hst]
 unfold EO at hw
 split at hw
 ·rename_i d off
  simp only [AaF,AaG] at hw
  obtain ⟨cs0,h0,cs',hcs',rfl⟩:=hw
  obtain ⟨cur,T,hh,hr⟩:=hok.boxes d cs0 h0
  obtain ⟨hR,hle⟩:=Jw hcs' hr hX
  simp only [Abp,hXl] at hR hle
  have hrun:=run (β d) off cur T _ h hh (.inl rfl) hle
  obtain ⟨hok',hst⟩:=Ok.setBox (d:=d) (cs:=cs') (cur:=(cur.toList.take off ++ (a.eval y).cells.toList ++ cur.toList.drop (off + xs.length)).toArray) (T:=T) hok (by rw [h0]; rfl) (DP w (β d) _) (setRow_heap w _ cur _ T (0,0) hh) (by simpa using hR)
  refine ⟨_,undef,_,_,_,_,hrun,.inr ⟨rfl,rfl⟩,hok',hst,.un,fun _ _=>rfl,fun k hk=>.inl ⟨k,?_,rfl⟩⟩
  simp only [Bn] at hk
  split at hk
  ·rename_i e; rw [e,h0]; rfl
  ·exact hk
 ·rename_i r ver ix off
  simp only [AaF,AK] at hw
  obtain ⟨row,hrow,hw⟩:=hw
  split at hw
  ·rename_i ty esz es base fz
   simp only [Ah,AaJ,AaV,Abi,AaF,AaG] at hw
   obtain ⟨⟨hfz,hve⟩,es',hes',H',hH',rfl⟩:=hw
   subst hfz
   obtain ⟨hrl,rfl⟩:=BJ hH'
   have hx:=RepX.toV rfl h
   generalize hxe : a.eval x = c at hx
   cases hx with | pt _ _ _ _ ty' esz' es1 base' fz' p hrow' h2 hix hb =>
   rw [hrow] at hrow'
   simp only [AaG,Row.cs.injEq] at hrow'
   obtain ⟨rfl,rfl,rfl,rfl,rfl⟩:=hrow'
   obtain ⟨hbl,hpos,hU,_,hns,cur,cap,mk,hh,hmk,hcs,hcap,hcm,hr⟩:=hok.rows r _ hrow
   have hmk:=hmk rfl
   obtain ⟨b,rfl,hA⟩:=hb (by omega)
   have hbe : b = ρ r:=by
    rcases hA with hA | ⟨_,hne,_⟩
    ·exact hA
    ·exact absurd hve hne
   subst hbe
   obtain ⟨w1,w2,w3,w4⟩:=Pa hU hes'
   have hcap' : es.length * esz <= cap * esz:=Abg _ hcap
   have hrun:=run (ρ r) (ix * esz + off) cur ty mk hxe hh hmk (by omega)
   have hRL : RepL w S ρ M.H es'.flatten ((cur.toList.take (ix * esz + off) ++ (a.eval y).cells.toList ++ cur.toList.drop (ix * esz + off + xs.length)).toArray.toList.take (es.length * esz)):=by
    have:=cut3 cur.toList (a.eval y).cells.toList (ix * esz + off) (es.length * esz) (by simp; omega) (by simp; omega)
    simp only [Abp,hXl] at this
    rw [List.toList_toArray,this,w1]
    exact ((hr.take _).append hX).append (hr.drop _)
   obtain ⟨hok',hst⟩:=Pn (arr:=(cur.toList.take (ix * esz + off) ++ (a.eval y).cells.toList ++ cur.toList.drop (ix * esz + off + xs.length)).toArray) hok hrow hh hmk w2 w3 (by simp; omega) hcs hcap hcm hRL
   exact ⟨_,undef,_,_,_,_,hrun,.inr ⟨rfl,rfl⟩,hok',hst,.un,fun _ _=>rfl,fun k hk=>.inl ⟨k,hk,rfl⟩⟩
  ·cases hw
 ·cases hw
end
end Go.Mx
/- Maps that turn; slice literals whose parts are frozen. -/
namespace Go.Mx
section
variable {P : Program} {w : World} {S : Nat -> Prop} {ρ β : Nat -> Nat} {M M' : Mem} {H : Hp} {o : Oper} {a : Act} {vs : List V} {v : V} {call : Bp}
theorem LD (r : Nat) : (fun k=>if k = r then ρ r else ρ k) = ρ:=by
 funext k
 by_cases c : k = r
 ·rw [AaN c,c]
 ·rw [AaL c]
theorem ES (n : Nat) {k : Nat} {x y : I} {c c' : Value} (h : eqC k x y = some true) (hx : RepI w S x c) (hy : RepI w S y c') : Instr.sameBits n c' c = true:=by
 rcases GX h hx hy with ⟨_,p,q,rfl,rfl,e⟩ | ⟨_,j,p,q,rfl,rfl,e⟩ | ⟨_,p,q,rfl,rfl,e⟩
 ·have : p = q:=eq_of_beq e.symm
  subst this
  cases n <;> simp [Instr.sameBits]
 ·have : p = q:=eq_of_beq e.symm
  subst this
  cases n <;> simp [Instr.sameBits]
 ·have e':=e.symm
  rw [beq_toListBytes] at e'
  have : (q == p) = true:=by rw [beq_toListBytes,eq_of_beq e']; simp
  cases n <;> simpa [Instr.sameBits] using this
theorem Er (n : Nat) : ∀ (ks : List Nat) (xs ys : List I) (cs cs' : List Value),Ew ks xs ys = some true -> LI w S xs cs -> LI w S ys cs' -> ((cs'.zip cs).all fun p=>Instr.sameBits n p.1 p.2) = true
 | [],xs,ys,cs,cs',h,hx,hy=>by
  have hl:=Dy _ _ _ _ h
  have h2:=hy.len
  have : cs' = []:=Abf (by rw [h2,hl.2]; rfl)
  subst this
  rfl
 | k :: ks,[],ys,cs,cs',h,hx,hy=>by simp [Ew] at h
 | k :: ks,x :: xs,[],cs,cs',h,hx,hy=>by simp [Ew] at h
 | k :: ks,x :: xs,y :: ys,cs,cs',h,hx,hy=>by
  simp only [Ew,AaF,AaG,AaJ] at h
  obtain ⟨r,hr,rs,hrs,rfl,rfl⟩:=h
  obtain ⟨c,cs,rfl,h1,h2⟩:=RepL.inv_cons (xs:=xs.map .m) hx
  obtain ⟨c',cs',rfl,h3,h4⟩:=RepL.inv_cons (xs:=ys.map .m) hy
  simp only [List.zip_cons_cons,List.all_cons,AaJ]
  exact ⟨ES n hr h1.imm h3.imm,Er n ks xs ys cs cs' hrs h2 h4⟩
theorem Jn {kt : KT} {x y : I} {c c' : Value} (h : CO kt x y = some true) (hx : RepI w S x c) (hy : RepI w S y c') : Instr.sameBits 10000 c' c = true:=by
 unfold CO at h
 split at h
 ·split at h
  ·rename_i xs ys
   obtain ⟨cs,rfl,lx⟩:=RepV.ofAgI (ρ:=id) (H:=[]) (.m hx)
   obtain ⟨cs',rfl,ly⟩:=RepV.ofAgI (ρ:=id) (H:=[]) (.m hy)
   have hl:=Dy _ _ _ _ h
   have h1:=(LI.ofL lx).len
   have h2:=(LI.ofL ly).len
   have:=Er 9999 _ _ _ _ _ h (.ofL lx) (.ofL ly)
   simp only [Abp] at h1 h2
   have hs : (cs'.size == cs.size) = true:=by rw [h1,h2,hl.1,hl.2]; simp
   show ((cs'.size == cs.size) && (cs'.toList.zip cs.toList).all fun (x,y)=>Instr.sameBits 9999 x y) = true
   rw [hs]
   exact this
  ·cases h
 ·split at h
  ·exact ES _ h hx hy
  ·cases h
theorem In {kt : KT} {key : I} : ∀ {es : List (I × V)} {i : Nat},HJ kt key es = some (some i) -> ∃ p,es[i]? = some p /\ CO kt key p.1 = some true
 | [],i,h=>by simp [HJ] at h
 | (k,x) :: es,i,h=>by
  simp only [HJ,AaF] at h
  obtain ⟨b,hb,h⟩:=h
  cases b with
  | true=>simp at h; subst h; exact ⟨_,rfl,hb⟩
  | false =>
   simp only [AaF,AaG] at h
   obtain ⟨q,hq,hqi⟩:=h
   cases q with
   | none=>simp at hqi
   | some j =>
    simp at hqi
    subst hqi
    simpa using In hq
theorem JJ (w : World) (r : Nat) (x : Obj) : Gw w { w with heap:=w.heap.setIfInBounds r x } (some r) :=
 ⟨⟨rfl,rfl,rfl,by simp,fun k _ hk=>by
  have : r ≠ k:=fun e=>hk (by rw [e])
  simp [this]⟩,fun _=>AaQ _⟩
theorem PQ {r : Nat} {es es' : List (I × V)} {ents ents' : Array MapEntry} {clock clock' : Nat} (hok : Ok w S ρ β M) (hrow : M.H[r]? = some (.mp es false)) (hh : w.heap[ρ r]? = some (.map ents clock)) (hE : Ents w S ρ M.H es' ents'.toList) (hbr : Brn ents' clock') :
  Ok { w with heap:=w.heap.setIfInBounds (ρ r) (.map ents' clock') } S ρ β { M with H:=M.H.set r (.mp es' false) } /\ Stp w S ρ β M { w with heap:=w.heap.setIfInBounds (ρ r) (.map ents' clock') } S ρ (M.H.set r (.mp es' false)):=by
 obtain ⟨_,hns,_⟩:=hok.rows r _ hrow
 have hnS:=hns rfl
 have hlt:=(Abk.1 hh).1
 have key:=Ok.setRow (w':={ w with heap:=w.heap.setIfInBounds (ρ r) (.map ents' clock') }) (S':=S) (g:=ρ r) (row':=.mp es' false) hok hrow (JJ w _ _) (.inl rfl) (fun _ h=>h) (fun b h=>.inl h)
  (fun b hb=>by
   have : ρ r ≠ b:=fun e=>hnS (e ▸ hb)
   simp [this])
  (fun ty1 esz1 es1 base1 fz1 e=>by cases e)
  (fun es1 fz1 e=>⟨rfl,es',false,rfl⟩)
  (fun hto=>by
   rw [LD] at hto ⊢
   refine ⟨fun e=>(by cases e),fun _=>hnS,ents',clock',by simp [hlt],⟨by have:=All2.length hE; simpa using this.symm,hbr⟩,fun j k x hj=>?_⟩
   obtain ⟨ent,h1,h2,h3⟩:=All2.get hE j _ hj
   exact ⟨ent,by simpa using h1,h2.mono hto.hw hto.hS,h3.mono hto⟩)
 rw [LD] at key
 exact key
theorem Ents.ofRow {r : Nat} {es : List (I × V)} {fz : Bool} (hok : Ok w S ρ β M) (hrow : M.H[r]? = some (.mp es fz)) : ∃ ents clock,w.heap[ρ r]? = some (.map ents clock) /\ Ents w S ρ M.H es ents.toList /\ Brn ents clock:=by
 obtain ⟨_,_,ents,clock,hh,⟨hl,hbr⟩,hE⟩:=hok.rows r _ hrow
 exact ⟨ents,clock,hh,All2.ofGet (by simpa using hl) (fun j p hj=>by
  obtain ⟨ent,h1,h2⟩:=hE j p.1 p.2 hj
  exact ⟨ent,by simpa using h1,h2⟩),hbr⟩
theorem Tq {ents : Array MapEntry} {clock : Nat} {k x : Value} (h : Brn ents clock) : Brn (ents.push { key:=k,val:=x,born:=clock }) (clock + 1):=by
 refine ⟨fun y hy=>?_,?_⟩
 ·rw [Array.toList_push] at hy
  rcases AbC.1 hy with hy | hy
  ·have:=h.1 y hy; omega
  ·rw [Abn.1 hy]; exact Nat.lt_succ_self _
 ·rw [Array.toList_push,List.map_append,List.nodup_append]
  refine ⟨h.2,by simp,fun a ha b hb e=>?_⟩
  simp only [Abr,List.map_nil,Abn] at hb
  obtain ⟨y,hy,rfl⟩:=Abz.1 ha
  have:=h.1 y hy
  omega
theorem Oh {ents : Array MapEntry} {clock : Nat} {k x : Value} {i : Nat} (h : Brn ents clock) : Brn (ents.modify i fun e=>{ e with key:=k,val:=x }) clock:=by
 have e : (ents.modify i fun e=>{ e with key:=k,val:=x }).toList.map (·.born) = ents.toList.map (·.born):=by
  apply List.ext_getElem?
  intro j
  simp only [Abb,Array.getElem?_toList,Array.getElem?_modify]
  split
  ·cases ents[j]? <;> rfl
  ·rfl
 refine ⟨fun y hy=>?_,by rw [e]; exact h.2⟩
 have hm : y.born ∈ ents.toList.map (·.born):=by rw [<- e]; exact List.mem_map_of_mem hy
 obtain ⟨z,hz,hb⟩:=Abz.1 hm
 have:=h.1 z hz
 omega
theorem Qq {ents : Array MapEntry} {clock : Nat} {i : Nat} (h : Brn ents clock) : Brn (ents.eraseIdxIfInBounds i) clock:=by
 have e : (ents.eraseIdxIfInBounds i).toList.Sublist ents.toList:=by
  unfold Array.eraseIdxIfInBounds
  split
  ·rw [Array.toList_eraseIdx]
   exact List.eraseIdx_sublist _ _
  ·exact .refl _
 exact ⟨fun y hy=>h.1 y (e.subset hy),(e.map _).nodup h.2⟩
theorem Ph {t kt0 e : TypeId} {m k x : Operand} {kt : KT} (ho : o.op = .mapUpdate t m k x \/ o.op = .insert t m k x) (hu : P.underlying t = some (.map kt0 e)) (hkt : ON P kt0 = some kt)
  (hok : Ok w S ρ β M) (hv : All2 (RepX w S ρ β M.H) vs [a.eval m,a.eval k,a.eval x]) (he : Am call M (.mup kt) vs = some (v,M')) :
  Outc w S ρ β M (.l (.mup kt)) v M' ((execOp a.eval o).run P w):=by
 cases hv with | cons h t1 =>
 cases t1 with | cons h1 t2 =>
 cases t2 with | cons h2 t3 =>
 cases t3
 simp only [Am] at he
 split at he
 ·rename_i r
  simp only [AaF,AK] at he
  obtain ⟨row,hrow,he⟩:=he
  split at he
  ·rename_i es
   simp only [AaF,Ah,AaJ,AaG,AaH] at he
   obtain ⟨key,hkey,⟨hfa,hoky⟩,es',hes',H',hH',rfl,rfl⟩:=he
   have hke:=Lc hkey
   subst hke
   obtain ⟨hrl,rfl⟩:=BJ hH'
   have hkr:=(RepX.toV rfl h1).imm
   have hxv:=RepX.toV hfa h2
   have hm : a.eval m = .map (some (ρ r)):=by
    have:=RepX.toV rfl h
    generalize a.eval m = c at this
    cases this
    rfl
   obtain ⟨ents,clock,hh,hE,hbr⟩:=Ents.ofRow hok hrow
   obtain ⟨p,hp,rfl⟩:=LG hes'
   have hck:=CG (P:=P) (w:=w) false hkt hoky hkr
   have hfk:=CF (P:=P) hkt hkr hoky hE hp
   have main : ∀ ents' clock',(Instr.mapUpdate t (.map (some (ρ r))) (a.eval k) (a.eval x)).run P w = .ok () { w with heap:=w.heap.setIfInBounds (ρ r) (.map ents' clock') } -> Brn ents' clock' -> ∀ es',Ents w S ρ M.H es' ents'.toList ->
     Outc w S ρ β M (.l (.mup kt)) .un { M with H:=M.H.set r (.mp es' false) } ((execOp a.eval o).run P w):=fun ents' clock' hrun hbr' es' hE'=>by
    obtain ⟨hok',hst⟩:=PQ (clock':=clock') hok hrow hh hE' hbr'
    refine ⟨.skip,undef,_,_,_,_,?_,.inr ⟨rfl,rfl⟩,hok',hst,.un,fun _ _=>rfl,fun d hd=>.inl ⟨d,hd,rfl⟩⟩
    rcases ho with ho | ho <;> simp [execOp,ho,hm,hrun]
   cases p with
   | none =>
    have hn : CV ents.toList 0 none = none:=rfl
    refine main (ents.push { key:=a.eval k,val:=a.eval x,born:=clock }) (clock + 1) ?_ (Tq hbr) _ ?_
    ·simp only [Instr.mapUpdate,Sem.run_bind,run_underlying hu,Result.andThen_ok,MapKept.run_getObj_map hh,hck,hfk,hn,MapKept.run_setObj_map _ hh]
    ·refine All2.ofGet (by have:=All2.length hE; simp at this ⊢; omega) fun j q hj=>?_
     by_cases c : j < es.length
     ·rw [Aba c] at hj
      obtain ⟨ent,h1,h2⟩:=All2.get hE j q hj
      refine ⟨ent,?_,h2⟩
      have hlt:=(AaI.1 h1).1
      simp only [Array.toList_push]
      rw [Aba hlt]
      exact h1
     ·have hl:=All2.length hE
      have hj':=(AaI.1 hj).1
      simp only [AaX,AbD,AbP] at hj'
      have hje : j = es.length:=by omega
      subst hje
      simp at hj
      subst hj
      exact ⟨{ key:=a.eval k,val:=a.eval x,born:=clock },by rw [hl]; simp,hkr,hxv⟩
   | some i =>
    obtain ⟨q,hq,hqk⟩:=In hp
    obtain ⟨ent,hent,hE1,hE2⟩:=All2.get hE i q hq
    have hn : CV ents.toList 0 (some i) = some (i,ent.val):=by simp only [CV,AaR,hent,AbE,Nat.zero_add]
    have hsb:=Jn hqk hkr hE1
    have hent' : ents[i]? = some ent:=by simpa using hent
    refine main (ents.modify i fun e=>{ e with key:=a.eval k,val:=a.eval x }) clock ?_ (Oh hbr) _ ?_
    ·simp only [Instr.mapUpdate,Sem.run_bind,run_underlying hu,Result.andThen_ok,MapKept.run_getObj_map hh,hck,hfk,hn,hent',AbE,Option.getD_some,Instr.keyThatStays,hsb,if_true,Sem.run_pure,MapKept.run_setObj_map _ hh]
    ·refine All2.ofGet (by have:=All2.length hE; simp at this ⊢; omega) fun j q' hj=>?_
     by_cases c : i = j
     ·subst c
      have hlt:=(AaI.1 hq).1
      simp [hlt] at hj
      subst hj
      exact ⟨{ ent with key:=a.eval k,val:=a.eval x },by simp [hent'],hkr,hxv⟩
     ·rw [AbM c] at hj
      obtain ⟨ent',h1,h2⟩:=All2.get hE j q' hj
      have h1' : ents[j]? = some ent':=by simpa using h1
      exact ⟨ent',by simp [c,h1'],h2⟩
  ·cases he
 ·cases he
theorem Vh {c : Go.Call} {t kt0 e : TypeId} {kt : KT} (ho : o.op = .call c) (hb : c.callee = .builtin .delete) (ht : c.argTypes[0]? = some t) (hu : P.underlying t = some (.map kt0 e)) (hkt : ON P kt0 = some kt)
  (hok : Ok w S ρ β M) (hv : All2 (RepX w S ρ β M.H) vs (c.args.toList.map a.eval)) (he : Am call M (.mdl kt) vs = some (v,M')) :
  Outc w S ρ β M (.l (.mdl kt)) v M' ((execOp a.eval o).run P w):=by
 match vs,he with
 | [m,k],he =>
  obtain ⟨cm,ck,hargs,h,h1⟩:=hv.inv2
  have hm:=Wq hargs
  simp only [Am] at he
  split at he
  ·rename_i r
   simp only [AaF,AK] at he
   obtain ⟨row,hrow,he⟩:=he
   split at he
   ·rename_i es
    simp only [AaF,Ah,AaG,AaH] at he
    obtain ⟨key,hkey,es',⟨hoky,hes'⟩,H',hH',rfl,rfl⟩:=he
    have hke:=Lc hkey
    subst hke
    obtain ⟨hrl,rfl⟩:=BJ hH'
    have hkr:=(RepX.toV rfl h1).imm
    have hmc : cm = .map (some (ρ r)):=by
     have:=RepX.toV rfl h
     cases this
     rfl
    subst hmc
    obtain ⟨ents,clock,hh,hE,hbr⟩:=Ents.ofRow hok hrow
    obtain ⟨p,hp,rfl⟩:=MJ hes'
    have hck:=CG (P:=P) (w:=w) ents.isEmpty hkt hoky hkr
    have hfk:=CF (P:=P) hkt hkr hoky hE hp
    have main : ∀ ents',(Builtin.delete_ c.argTypes o.type #[.map (some (ρ r)),ck]).run P w = .ok (.tuple #[]) { w with heap:=w.heap.setIfInBounds (ρ r) (.map ents' clock) } -> Brn ents' clock -> ∀ es',Ents w S ρ M.H es' ents'.toList ->
      Outc w S ρ β M (.l (.mdl kt)) (.tu []) { M with H:=M.H.set r (.mp es' false) } ((execOp a.eval o).run P w):=fun ents' hrun hbr' es' hE'=>by
     obtain ⟨hok',hst⟩:=PQ (clock':=clock) hok hrow hh hE' hbr'
     exact ⟨_,.tuple #[],_,_,_,_,AH ho hb (fun _=>by rw [hm]; rfl) hrun,.inl rfl,hok',hst,RepL.toTu (cs:=#[]) .nil,fun _ _=>rfl,fun d hd=>.inl ⟨d,hd,rfl⟩⟩
    cases p with
    | none =>
     have hn : CV ents.toList 0 none = none:=rfl
     refine main ents ?_ hbr _ hE
     simp [Builtin.delete_,ht,run_underlying hu,MapKept.run_getObj_map hh,hck,hfk,hn,MapKept.run_setObj_map _ hh]
    | some i =>
     obtain ⟨q,hq,hqk⟩:=In hp
     obtain ⟨ent,hent,hE1,hE2⟩:=All2.get hE i q hq
     have hn : CV ents.toList 0 (some i) = some (i,ent.val):=by simp only [CV,AaR,hent,AbE,Nat.zero_add]
     refine main (ents.eraseIdxIfInBounds i) ?_ (Qq hbr) _ ?_
     ·simp [Builtin.delete_,ht,run_underlying hu,MapKept.run_getObj_map hh,hck,hfk,hn,MapKept.run_setObj_map _ hh]
     ·have hlt : i < ents.size:=by have:=(AaI.1 hent).1; simpa using this
      have : (ents.eraseIdxIfInBounds i).toList = ents.toList.eraseIdx i:=by simp [Array.eraseIdxIfInBounds,hlt]
      rw [this]
      refine All2.ofGet (by
       have:=All2.length hE
       have h2:=(AaI.1 hq).1
       rw [List.length_eraseIdx,List.length_eraseIdx]
       simp at this ⊢
       rw [AaN hlt,AaN h2,this]) fun j q' hj=>?_
      rw [List.getElem?_eraseIdx] at hj ⊢
      split at hj
      ·rename_i c; rw [AaN c]; exact All2.get hE j q' hj
      ·rename_i c; rw [AaL c]; exact All2.get hE (j + 1) q' hj
   ·cases he
  ·cases he
end
end Go.Mx
