/- Soundness of the machine, part 2. Nothing here speaks of a program. -/
import Derived.Test.YtlhjjcaifenlbaaGreatDoorBa
import Derived.Laws.IdiomStrings
import Derived.Laws.MakeOwn
import Derived.Lib.UnsafeStr
import Derived.WideKeyRuns
import Derived.MapKept
import Derived.Laws.CopyRow
set_option linter.unusedSimpArgs false
set_option linter.unusedVariables false
set_option linter.unusedSectionVars false
namespace Go.Mx
section
variable {P:Program} {w:World} {S:Nat->Prop} {ρ β:Nat->Nat} {M:Mem} {H:Hp} {o:Oper} {a:Act} {vs:List V} {v:V}
def Su (neg:Bool):BinOp:=match neg with
 | true=>.neq
 | false=>.eql
variable {t:TypeId} {x y:Operand} {c c':Value} {neg r:Bool}
theorem Kg (J:∀k n,c ≠ .int k n)(z:∀k p q,c ≠ .complex k p q)(E:∀k n,c ≠ .float k n)(u:∀s,c ≠ .string s) 
  (N:(eqGuard (Su neg) t x y c c').run P w=.ok () w) (h:(Op.equal t c c').run P w=.ok r w) :
  (do eqGuard (Su neg) t x y c c';binOp (Su neg) t c c':Sem Value).run P w=.ok (.bool (xor neg r)) w:=by
 rw[Sem.run_bind,N,Result.andThen_ok]
 cases neg
 ·have:binOp .eql t c c'=(do pure (.bool (<-Op.equal t c c'))):=by
   unfold binOp
   cases c <;> cases c' <;> first|rfl|(exfalso;first|exact J _ _ rfl|exact z _ _ _ rfl|exact E _ _ rfl|exact u _ rfl)
  simp only[Su,this,Sem.run_bind,h,Result.andThen_ok,Sem.run_pure]
  simp
 ·have:binOp .neq t c c'=(do pure (.bool (!(<-Op.equal t c c')))):=by
   unfold binOp
   cases c <;> cases c' <;> first|rfl|(exfalso;first|exact J _ _ rfl|exact z _ _ _ rfl|exact E _ _ rfl|exact u _ rfl)
  simp only[Su,this,Sem.run_bind,h,Result.andThen_ok,Sem.run_pure]
  simp
variable {ty:TypeId}
theorem AaN (Z:o.op=.binOp (Su neg) t x y ty)(N:P.underlying t=some .bool):S4 o a P w S ρ β M vs v (.eqb neg) [a.eval x,a.eval y]:=fun z Y u=>by
 cases Y with|cons h J =>
 cases J with|cons Q t2 =>
 cases t2
 simp only[Aq]at u
 split at u
 ·rename_i p q
  simp only[vb,Ahe]at u
  subst u
  have W:=CF (RepX.toV rfl h)
  have E:=CF (RepX.toV rfl Q)
  have hg:(eqGuard (Su neg) t x y (.bool p) (.bool q)).run P w=.ok () w:=by cases neg <;> simp[eqGuard,Su]
  have U:=Kg (P:=P) (w:=w) (x:=x) (y:=y) (neg:=neg) (by simp) (by simp) (by simp) (by simp) hg (run_equalIn_bool w _ t p q N)
  refine .val z (RepX.ofV (.m (.b (xor neg (p==q))))) ?_
  simp only[execOp,Z,W,E]
  rw[Sem.run_bind,U]
  rfl
 ·cases u
variable {ks:List Nat}
theorem RH (u:XB P t=some ks):Cn P t=some true/\P.eqGuardType P.depth t=false/\CR P 6 t=some ks:=by
 unfold XB at u
 split at u
 ·rename_i z;simp only[Ag,AhQ]at u;exact⟨by simp[Cn,z],u⟩
 ·rename_i z;simp only[Ag,AhQ]at u;exact⟨by simp[Cn,z],u⟩
 ·cases u
theorem AaM (ho:o.op=.binOp (Su neg) t x y ty)(W:XB P t=some ks):S4 o a P w S ρ β M vs v (.eqs neg ks) [a.eval x,a.eval y]:=fun E hv u=>by
 cases hv with|cons h U =>
 cases U with|cons Y t2 =>
 cases t2
 simp only[Aq]at u
 split at u
 ·rename_i xs Z
  simp only[vb,Ahd,Ahe]at u
  obtain⟨r,z,rfl⟩:=u
  obtain⟨N,hx,lx⟩:=RepV.ofAgI (RepX.toV rfl h)
  obtain⟨J,Q,ly⟩:=RepV.ofAgI (RepX.toV rfl Y)
  obtain⟨g1,g2,g3⟩:=RH W
  have hq:=Kv 6 t ks g3 9994 w S (.agg N) (.agg J) _ _ xs Z r (.inl ⟨g1,_,rfl,rfl⟩) (.inl ⟨g1,_,rfl,rfl⟩) (.ofL lx) (.ofL ly) z
  have hg:=run_eqGuard_agg w (Su neg) t x y N J g2
  have z:=Kg (P:=P) (w:=w) (x:=x) (y:=y) (neg:=neg) (by simp) (by simp) (by simp) (by simp) hg hq
  refine .val E (RepX.ofV (.m (.b (xor neg r)))) ?_
  simp only[execOp,ho,hx,Q]
  rw[Sem.run_bind,z]
  rfl
 ·cases u
theorem PC:∀(xs:List Value) (k off:Nat) (cells:Array Value),off+k+xs.length<=cells.size ->
  ((xs.zipIdx k).foldl (fun cs p=>cs.setIfInBounds (off+p.2) p.1) cells).toList=cells.toList.take (off+k)++xs++cells.toList.drop (off+k+xs.length)
 | [],k,off,cells,h=>by simp
 | x::xs,k,off,cells,h=>by
  simp only[AhR]at h
  rw[List.zipIdx_cons,List.foldl_cons,PC xs (k+1) off _ (by simp;omega)]
  have u:off+k<cells.toList.length:=by simp;omega
  simp only[Array.toList_setIfInBounds,AhR]
  have z:(cells.toList.set (off+k) x).take (off+(k+1))=cells.toList.take (off+k)++[x]:=by
   rw[List.set_eq_take_append_cons_drop,Ahl u,show off+(k+1)=(off+k)+1 by omega]
   rw[List.take_append,Ahx,Nat.min_eq_left (by omega),List.take_take,Nat.min_eq_right (by omega)]
   simp
  have E:(cells.toList.set (off+k) x).drop (off+(k+1)+xs.length)=cells.toList.drop (off+k+(xs.length+1)):=by
   rw[List.drop_set_of_lt (by omega)]
   congr 1
   omega
  rw[z,E]
  simp
theorem PH (c:Array Value)(off:Nat)(cells:Array Value)(h:off+c.size<=cells.size):
  (c.zipIdx.foldl (fun cs (p:Value×Nat)=>cs.setIfInBounds (off+p.2) p.1) cells).toList=cells.toList.take off++c.toList++cells.toList.drop (off+c.size):=by
 rw[<-Array.foldl_toList,Array.toList_zipIdx]
 have:=PC c.toList 0 off cells (by simpa using h)
 simpa using this
theorem LP {xs cs l:List V}{off:Nat}{X C:List Value}(h:Fz cs off xs=some l)(u:RepL w S ρ H cs C)(z:RepL w S ρ H xs X):RepL w S ρ H l (C.take off++X++C.drop (off+X.length))/\off+X.length<=C.length:=by
 simp only[Fz,Ag,AhS,Ahe]at h
 obtain⟨N,rfl⟩:=h
 have E:=z.1
 have J:=u.1
 rw[E]
 exact⟨((u.take off).append z).append (u.drop _),by omega⟩
theorem Kz {place:Nat->Option (Nat×Nat)}:∀(ps:List (Nat×Nat)) (u:List (Nat×Value)) (xs cs l:List V) (C:Array Value),TJ cs ps xs=some l->RepL w S ρ H cs C.toList->All2 (RepX w S ρ β H) xs (u.map (·.2)) ->
  (∀(j:Nat) p q,ps[j]? = some p->u[j]? = some q->place q.1=some p) -> ∃Q,Instr.fill place C u=some Q/\RepL w S ρ H l Q.toList
 | [],u,xs,cs,l,C,h,hc,E,hp=>by
  cases xs with
  | nil =>
   simp only[TJ,Ahe]at h
   subst h
   cases u with
   | nil=>exact⟨C,rfl,hc⟩
   | cons p ps=>cases E
  | cons x xs=>simp[TJ]at h
 | p::ps,u,xs,cs,l,C,h,hc,E,hp=>by
  cases xs with
  | nil=>obtain⟨off,sz⟩:=p;simp[TJ]at h
  | cons x xs =>
   obtain⟨off,sz⟩:=p
   simp only[TJ,Ahd,Ag,AhB]at h
   obtain⟨lx,Y,hsz,a0,N,h⟩:=h
   cases u with
   | nil=>cases E
   | cons q u =>
    obtain⟨i,c⟩:=q
    cases E with|cons W E =>
    have J:=RepX.cells W Y
    have z:=hp 0 (off,sz) (i,c) rfl rfl
    obtain⟨Z,h2⟩:=LP N hc J
    have a2:c.cells.size=sz:=by have:=J.1;simp at this;omega
    simp only[AhX]at Z h2
    rw[<-PH c.cells off C h2]at Z
    obtain⟨Q,U,a1⟩:=Kz ps u xs a0 l _ h Z E (fun j p q hj hq=>hp (j+1) p q (by simpa using hj) (by simpa using hq))
    refine⟨Q,?_,a1⟩
    have z:place i=some (off,sz):=z
    simp only[Instr.fill,z]
    rw[Ahj (by simp;omega)]
    exact U
theorem DP (f:Operand->Value)(ps:Array (Nat×Operand)):(ps.map fun(i,x)=>(i,f x)).toList=ps.toList.map fun q=>(q.1,f q.2):=by simp
theorem Ps {α β:Type}{f:α->Sem β}{g:α->β}(w:World):∀(l:List α),(∀x,x∈l->(f x).run P w=.ok (g x) w)->(l.mapM f).run P w=.ok (l.map g) w
 | [],_=>by simp
 | x::l,h=>by
  simp only[List.mapM_cons,Sem.run_bind,h x (by simp),Result.andThen_ok,Ps w l (fun y u=>h y (by simp[u])),Sem.run_pure,AhL]
theorem Ic {z:Array Field}:∀ {ps:List (Nat×Operand)} {l:List (Nat×Nat)},Ie P z ps=some l -> ∀(j:Nat) p q,l[j]? = some p->ps[j]? = some q -> ∃f s,z[q.1]? = some f/\BD P f.type=some s/\p=(f.offset,s)
 | [],l,h,j,p,q,hp,hq=>by simp at hq
 | (i,x)::ps,l,h,j,p,q,hp,hq=>by
  simp only[Ie,Ahd,Ahe]at h
  obtain⟨f,E,s,hs,J,u,rfl⟩:=h
  cases j with
  | zero=>simp at hp hq;subst hp;subst hq;exact⟨f,s,E,hs,rfl⟩
  | succ j=>exact Ic u j p q (by simpa using hp) (by simpa using hq)
variable {ps:Array (Nat×Operand)} {zs:List V}
theorem Hn {u:Array Field}{U:List (Nat×Nat)}(ho:o.op=.build t ps)(hz:Dv P t=some zs)(hu:P.underlying t=some (.struct u))(J:(u.toList.all fun f=>(P.info? f.type).isSome)=true)(Q:Ie P u ps.toList=some U):S4 o a P w S ρ β M vs v (.build zs U) ((ps.toList.map (·.2)).map a.eval):=fun hok hv he=>by
 obtain⟨i,z,N,W,hz2,hz3,a2⟩:=CE hz
 simp only[Aq,Ahd,Ahe]at he
 obtain⟨cs,a0,rfl⟩:=he
 have E:(u.mapM fun f=>do pure (f.offset,<-sizeOf f.type):Sem (Array (Nat×Nat))).run P w=.ok (u.map fun f=>(f.offset,((P.info? f.type).map (·.size)).getD 0)) w:=by
  rw[Array.mapM_eq_mapM_toList]
  simp only[Sem.run_map]
  rw[Ps (g:=fun f=>(f.offset,((P.info? f.type).map (·.size)).getD 0)) w u.toList (fun f hf=>by
   have:=Ahu.1 J f hf
   obtain⟨i,N⟩:=Aii.1 this
   simp[AS N,N])]
  simp only[Result.andThen,<-Array.toList_map]
 obtain⟨C',a3,Y⟩:=Kz (place:=fun k=>(u.map fun f=>(f.offset,((P.info? f.type).map (·.size)).getD 0))[k]?) (β:=β) U (ps.map fun(i,x)=>(i,a.eval x)).toList vs zs cs z.cells a0 (a2 w S ρ M.H)
  (by rw[DP];simpa[Aim,Function.comp_def]using hv) (fun j p q hp hq=>by
   rw[DP,AhD]at hq
   obtain⟨q',a1,rfl⟩:=AhM.1 hq
   obtain⟨f,s,hf,hs,rfl⟩:=Ic Q j p q' hp a1
   obtain⟨i',Z,rfl⟩:=AR.1 hs
   simp[hf,Z])
 refine .val hok (RepX.ofV Y.mkAg) ?_
 simp only[execOp,ho,Instr.build,Sem.run_bind,Br N W,run_underlying hu,Result.andThen_ok,E,a3]
 simp
theorem HU {e:TypeId}{n:Nat}{s:Nat}(ho:o.op=.build t ps)(hz:Dv P t=some zs)(hu:P.underlying t=some (.array n e))(hs:BD P e=some s):S4 o a P w S ρ β M vs v (.build zs (ps.toList.map fun q=>(q.1*s,s))) ((ps.toList.map (·.2)).map a.eval):=fun W hv he=>by
 obtain⟨i,z,hi,N,hz2,hz3,E⟩:=CE hz
 obtain⟨Z,u,rfl⟩:=AR.1 hs
 simp only[Aq,Ahd,Ahe]at he
 obtain⟨cs,U,rfl⟩:=he
 obtain⟨C',J,Q⟩:=Kz (place:=fun k=>some (k*Z.size,Z.size)) (β:=β) _ (ps.map fun(i,x)=>(i,a.eval x)).toList vs zs cs z.cells U (E w S ρ M.H)
  (by rw[DP];simpa[Aim,Function.comp_def]using hv) (fun j p q hp hq=>by
   rw[DP,AhD]at hq
   obtain⟨q',Y,rfl⟩:=AhM.1 hq
   rw[AhD,Y]at hp
   simpa using hp)
 refine .val W (RepX.ofV Q.mkAg) ?_
 simp only[execOp,ho,Instr.build,Sem.run_bind,Br hi N,run_underlying hu,Result.andThen_ok,AS u,J]
 simp
def CS:Nat->Value
 | 0=>.pointer none
 | 1=>.map none
 | 2=>.nilFunc
 | 3=>.nilIface
 | _=>.slice none 0 0
variable {k:Nat}
theorem Mh (h:JC k y=true):y=.const (CS k):=by
 unfold JC at h
 split at h <;> first|rfl|cases h
theorem JB {x:V}(h:FC k x=some r)(E:RepX w S ρ β H x c):
  (k=0 /\ ∃p:Option Addr,c=.pointer p/\r=p.isNone)\/(k=1 /\ ∃p:Option Nat,c=.map p/\r=p.isNone)\/(k=2/\((c=.nilFunc/\r=true)\/(∃f u z,c=.func f u z)/\r=false)) \/
  (k=3/\((c=.nilIface/\r=true)\/(∃t u,c=.iface t u)/\r=false))\/(k=4 /\ ∃(p:Option Addr) (n m:Nat),c=.slice p n m/\r=p.isNone):=by
 unfold FC at h
 split at h <;> first|cases h|(simp only[Option.some.injEq]at h;subst h)
 ·have E:=(RepX.toV rfl E).imm;cases E;exact .inl ⟨rfl,none,rfl,rfl⟩
 ·have E:=(RepX.toV rfl E).imm;cases E;exact .inl ⟨rfl,some _,rfl,rfl⟩
 ·have E:=RepX.toV rfl E;cases E;exact .inl ⟨rfl,some _,rfl,rfl⟩
 ·exact .inl ⟨rfl,some _,E,rfl⟩
 ·have E:=(RepX.toV rfl E).imm;cases E;exact .inr (.inl ⟨rfl,none,rfl,rfl⟩)
 ·have E:=(RepX.toV rfl E).imm;cases E;exact .inr (.inl ⟨rfl,some _,rfl,rfl⟩)
 ·have E:=RepX.toV rfl E;cases E;exact .inr (.inl ⟨rfl,some _,rfl,rfl⟩)
 ·have E:=(RepX.toV rfl E).imm;cases E;exact .inr (.inr (.inl ⟨rfl,.inl ⟨rfl,rfl⟩⟩))
 ·have E:=(RepX.toV rfl E).imm;cases E;exact .inr (.inr (.inl ⟨rfl,.inr ⟨⟨_,_,_,rfl⟩,rfl⟩⟩))
 ·have E:=RepX.toV rfl E;cases E;exact .inr (.inr (.inl ⟨rfl,.inr ⟨⟨_,_,_,rfl⟩,rfl⟩⟩))
 ·have E:=(RepX.toV rfl E).imm;cases E;exact .inr (.inr (.inr (.inl ⟨rfl,.inl ⟨rfl,rfl⟩⟩)))
 ·have E:=(RepX.toV rfl E).imm;cases E;exact .inr (.inr (.inr (.inl ⟨rfl,.inr ⟨⟨_,_,rfl⟩,rfl⟩⟩)))
 ·have E:=(RepX.toV rfl E).imm;cases E;exact .inr (.inr (.inr (.inr ⟨rfl,none,_,_,rfl,rfl⟩)))
 ·have E:=(RepX.toV rfl E).imm
  cases E with|sl _ Z cap esz b off cs N hm Q U J hc hr =>
  obtain⟨p,rfl⟩:=J
  exact .inr (.inr (.inr (.inr ⟨rfl,some _,_,_,rfl,rfl⟩)))
 ·have E:=Jz (RepX.toV rfl E)
  cases E with|sl _ Z cap esz b off cs N hm Q U J hc hr =>
  obtain⟨p,rfl⟩:=J
  exact .inr (.inr (.inr (.inr ⟨rfl,some _,_,_,rfl,rfl⟩)))
 ·have E:=RepX.toV rfl E
  cases E with|sl _ _ _ _ _ _ ty es Y fz Z cap W h1 h2 h3 h4 h5 hn hb U =>
  obtain⟨p,rfl⟩:=hn
  exact .inr (.inr (.inr (.inr ⟨rfl,some _,_,_,rfl,rfl⟩)))
theorem Abr (d:Nat){x:V}(h:FC k x=some r)(U:RepX w S ρ β H x c)(E:AeG P t=some k):
  (Op.equalIn (d+1) t c (CS k)).run P w=.ok r w/\(Op.equalIn (d+1) t (CS k) c).run P w=.ok r w:=by
 have Q:∃d,P.underlying t=some d:=by
  unfold AeG at E
  cases J:P.underlying t with
  | none=>simp[J]at E
  | some d=>exact⟨d,rfl⟩
 obtain⟨u,J⟩:=Q
 simp only[AeG,J]at E
 rcases JB h U with ⟨rfl,p,rfl,rfl⟩|⟨rfl,p,rfl,rfl⟩|⟨rfl,N⟩|⟨rfl,N⟩|⟨rfl,p,n,m,rfl,rfl⟩
 ·cases u <;> simp at E
  simp only[Op.equalIn,CS,Sem.run_bind,run_underlying J,Result.andThen_ok]
  cases p <;> simp
 ·cases u <;> simp at E
  simp only[Op.equalIn,CS,Sem.run_bind,run_underlying J,Result.andThen_ok]
  cases p <;> simp
 ·cases u <;> simp at E
  simp only[Op.equalIn,CS,Sem.run_bind,run_underlying J,Result.andThen_ok]
  rcases N with ⟨rfl,rfl⟩|⟨⟨f,u,z,rfl⟩,rfl⟩ <;> simp
 ·cases u <;> simp at E
  simp only[Op.equalIn,CS,Sem.run_bind,run_underlying J,Result.andThen_ok]
  rcases N with ⟨rfl,rfl⟩|⟨⟨f,u,rfl⟩,rfl⟩ <;> simp
 ·cases u <;> simp at E
  simp only[Op.equalIn,CS,Sem.run_bind,run_underlying J,Result.andThen_ok]
  cases p <;> simp
theorem Mo {op:BinOp}(h:∀xs,c ≠ .agg xs)(z:(∃u,x=.const u) \/ ∃u,y=.const u):(eqGuard op t x y c c').run P w=.ok () w:=by
 rcases z with ⟨u,rfl⟩|⟨u,rfl⟩ <;> cases c <;> first|exact absurd rfl (h _)|(cases op <;> rfl)|(cases c' <;> cases op <;> first|rfl|(cases x <;> rfl))
theorem Tz {x:V}(h:FC k x=some r)(E:RepX w S ρ β H x c):
  (∀k n,c ≠ .int k n)/\(∀k p q,c ≠ .complex k p q)/\(∀k n,c ≠ .float k n)/\(∀s,c ≠ .string s) /\ ∀xs,c ≠ .agg xs:=by
 rcases JB h E with ⟨rfl,p,rfl,rfl⟩|⟨rfl,p,rfl,rfl⟩|⟨rfl,⟨rfl,rfl⟩|⟨⟨f,u,z,rfl⟩,rfl⟩⟩|⟨rfl,⟨rfl,rfl⟩|⟨⟨f,u,rfl⟩,rfl⟩⟩|⟨rfl,p,n,m,rfl,rfl⟩ <;> simp
theorem SS {z:Operand}(ho:o.op=.binOp (Su neg) t x y ty)(ht:AeG P t=some k)(hz:(JC k y=true/\z=x)\/(JC k x=true/\z=y)):S4 o a P w S ρ β M vs v (.eqn neg k) [a.eval z]:=fun Q hv Y=>by
 cases hv with|cons h t1 =>
 cases t1
 simp only[Aq,vb,Ahd,Ahe]at Y
 obtain⟨r,W,rfl⟩:=Y
 obtain⟨e1,e2⟩:=Abr (P:=P) 9999 W h ht
 obtain⟨n1,n2,n3,n4,n5⟩:=Tz W h
 refine .val Q (RepX.ofV (.m (.b (xor neg r)))) ?_
 have u:(∀j n,CS k ≠ .int j n)/\(∀j p q,CS k ≠ .complex j p q)/\(∀j n,CS k ≠ .float j n)/\(∀s,CS k ≠ .string s) /\ ∀xs,CS k ≠ .agg xs:=by
  unfold CS
  split <;> simp
 rcases hz with ⟨J,rfl⟩|⟨J,rfl⟩
 ·have U:=Mh J
  have E:a.eval y=CS k:=by rw[U];rfl
  have:=Kg (P:=P) (w:=w) (x:=z) (y:=y) (neg:=neg) n1 n2 n3 n4 (Mo n5 (.inr ⟨_,U⟩)) e1
  simp only[execOp,ho,E]
  rw[Sem.run_bind,this]
  rfl
 ·have Z:=Mh J
  have N:a.eval x=CS k:=by rw[Z];rfl
  have:=Kg (P:=P) (w:=w) (x:=x) (y:=z) (neg:=neg) u.1 u.2.1 u.2.2.1 u.2.2.2.1 (Mo u.2.2.2.2 (.inl ⟨_,Z⟩)) e2
  simp only[execOp,ho,N]
  rw[Sem.run_bind,this]
  rfl
end
end Go.Mx
namespace Go.Mx
section
variable {P:Program} {w:World} {S:Nat->Prop} {ρ β:Nat->Nat} {M:Mem} {H:Hp} {o:Oper} {a:Act} {vs:List V} {v:V}
theorem Er (w:World)(x:Obj):Gw w (w.drew.alloc x) none:=⟨⟨rfl,rfl,rfl,by simp,fun k u _=>heap_alloc_old w x k u⟩,fun _=>Nat.le_succ _⟩
theorem Gv (w:World)(e:TypeId)(cs:Array Value):(Go.newRow e cs).run P w=.ok ⟨w.heap.size,0,none⟩ (w.alloc (.cells cs e)):=rfl
def Aha (S:Nat->Prop)(w:World):Nat->Prop:=fun b=>S b\/b=w.heap.size
theorem Ok.allocI (u:Ok w S ρ β M){w':World}(z:Gw w w' none)(hs:w'.heap.size=w.heap.size+1):Ok w' (Aha S w) ρ β M/\Stp w S ρ β M w' (Aha S w) ρ M.H :=
 u.grow z (fun _ h=>.inl h) (fun b h=>h.imp id (fun e=>by omega)) (fun b h=>by
  rcases h with h|h
  ·have:=u.lt b h;omega
  ·omega)
theorem Ig:∀ {es:L0} {l:LT},Ah BF es=some l->es=Bn l
 | [],l,h=>by simp[Ah]at h;subst h;rfl
 | e::es,l,h=>by
  simp only[Ah,Ahd,Ahe]at h
  obtain⟨x,u,z,hl,rfl⟩:=h
  rw[Om u,Ig hl]
  rfl
theorem Mm (l:LT):(Bn l).flatten=l.flatten.map .m:=by rw[Bn,List.map_flatten]
theorem immS_len (l:LT):(Bn l).length=l.length:=by simp[Bn]
variable {n:Nat}
theorem Xu {l:LT}(h:Uni n (Bn l)):Uni n l:=fun e u=>by
 have:=h (e.map .m) (by simp only[Bn,AhE];exact⟨e,u,rfl⟩)
 simpa using this
theorem WC {l:LT}(h:Uni n l):Uni n (Bn l):=fun e z=>by
 simp only[Bn,AhE]at z
 obtain⟨E,u,rfl⟩:=z
 simpa using h E u
theorem RepI.ofRow {es:LT}{esz b cap:Nat}{cur:Array Value}{T:TypeId}{mk:Nat×Nat}(Q:S b)(U:w.heap[b]? = some (.cells cur T mk))(N:Uni esz es)(Z:RepL w S ρ H (es.flatten.map .m) (cur.toList.take (es.length*esz))) 
  (u:es.length<=cap) (hm:cap<=maxLen):RepI w S (.sl es) (.slice (some ⟨b,0,none⟩) es.length cap):=by
 obtain⟨hl,c,Y,hx⟩:=Z.toI
 refine .sl es (some ⟨b,0,none⟩) cap esz b 0 (fun i j=>c (i*esz+j)) u hm N (fun _=>⟨rfl,Q⟩) ⟨_,rfl⟩ (fun i e j x J E=>?_) (fun i e j x J E=>?_)
 ·have W:=Dm N J E
  have z:=Y _ _ W
  rw[AhN]at z
  split at z
  ·rw[Aih,cell_of_row w b _ cur T mk U]
   simpa using z
  ·cases z
 ·exact hx _ _ (Dm N J E)
theorem JH {esz:Nat}:∀(ps:List Nat) (u:List (Nat×Value)) (xs:List V) (es es':L0) (C:Array Value),BP esz es ps xs=some es'->Uni esz es->RepL w S ρ H es.flatten C.toList->All2 (RepX w S ρ β H) xs (u.map (·.2)) ->
  ps=u.map (·.1) -> ∃C',Instr.fill (fun i=>some (i*esz,esz)) C u=some C'/\RepL w S ρ H es'.flatten C'.toList/\Uni esz es'/\es'.length=es.length
 | [],u,xs,es,es',C,h,hu,hc,E,W=>by
  cases xs with
  | nil =>
   simp only[BP,Ahe]at h
   subst h
   cases u with
   | nil=>exact⟨C,rfl,hc,hu,rfl⟩
   | cons p ps=>cases E
  | cons x xs=>simp[BP]at h
 | p::ps,u,xs,es,es',C,h,hu,hc,E,W=>by
  cases xs with
  | nil=>simp[BP]at h
  | cons x xs =>
   simp only[BP,Ahd,Ag,AhB]at h
   obtain⟨lx,hlx,Y,es1,N,h⟩:=h
   cases u with
   | nil=>cases E
   | cons q u =>
    obtain⟨i,c⟩:=q
    cases E with|cons hc0 E =>
    simp only[AhL,List.cons.injEq]at W
    obtain⟨rfl,W⟩:=W
    obtain⟨a0,rfl⟩:=By N
    have U:=RepX.cells hc0 hlx
    have z:c.cells.size=esz:=by have:=U.1;simp at this;omega
    have hfl:=hu.len
    have Q:=hc.1
    simp only[AhX]at Q
    have hle:p*esz+esz<=es.length*esz:=by
     have:=Aif esz (Nat.succ_le_of_lt a0)
     rw[Nat.succ_mul]at this
     exact this
    have h1:RepL w S ρ H (es.set p lx).flatten (C.toList.take (p*esz)++c.cells.toList++C.toList.drop (p*esz+esz)):=by
     rw[Ku hu a0 Y]
     exact((hc.take _).append U).append (hc.drop _)
    rw[<-z,<-PH c.cells (p*c.cells.size) C (by rw[z];omega)]at h1
    obtain⟨C',J,hl',hu',Z⟩:=JH ps u xs (es.set p lx) es' _ h (hu.set Y) h1 E W
    refine⟨C',?_,hl',hu',by simpa using Z⟩
    simp only[Instr.fill]
    rw[Ahj (by simp;omega)]
    rw[z]at J
    exact J
theorem Ph (zs:Array Value)(n:Nat)(u:0<zs.size):((Array.range (n*zs.size)).map (fun i=>zs[i%zs.size]!)).toList=(List.replicate n zs.toList).flatten:=by
 have z:Uni zs.size (List.replicate n zs.toList):=Uni.replicate (by simp)
 apply List.ext_getElem?
 intro p
 by_cases E:p<n*zs.size
 ·have W:(List.replicate n zs.toList)[p / zs.size]? = some zs.toList:=by
   rw[List.getElem?_replicate,Ahl]
   exact(Nat.div_lt_iff_lt_mul u).2 E
  have J:=Nat.mod_lt p u
  have Q:zs.toList[p%zs.size]? = some zs[p%zs.size]:=by simp[J]
  have N:=Dm z W Q
  have U:p / zs.size*zs.size+p%zs.size=p:=by rw[AiK];exact Nat.div_add_mod p zs.size
  rw[U]at N
  rw[N]
  simp[E,J]
 ·rw[List.getElem?_eq_none (by simp;omega),List.getElem?_eq_none (by rw[z.len];simp;omega)]
variable {t e:TypeId} {ps:Array (Nat×Operand)} {zs:List V}
theorem Fo {s:Nat}{es:L0}(hu:P.underlying t=some (.slice e))(hs:BD P e=some s)(Q:n*s<=16777216)(hpos:1<=s)(hz:Dv P e=some zs) 
  (hv:All2 (RepX w S ρ β H) vs ((ps.toList.map (·.2)).map a.eval)) (he:BP s (List.replicate n zs) (ps.toList.map (·.1)) vs=some es) :
  ∃Y,(Instr.buildSlice t n (ps.map fun(i,x)=>(i,a.eval x))).run P w=.ok (.slice (some ⟨w.heap.size,0,none⟩) n n) (w.alloc (.cells Y e))/\RepL w S ρ H es.flatten Y.toList/\Uni s es/\es.length=n:=by
 obtain⟨i,z,Z,a2,a1,a0,a6⟩:=CE hz
 obtain⟨i',J,rfl⟩:=AR.1 hs
 rw[Z]at J
 cases J
 obtain⟨U,a5,a7,a8⟩:∃U:Array Value,(n*i.size=0->U=#[])/\(n*i.size≠0->U=z.cells)/\RepL w S ρ H (List.replicate n zs).flatten ((Array.range (n*i.size)).map (fun k=>U[k%U.size]!)).toList:=by
  by_cases u:n*i.size=0
  ·refine⟨#[],fun _=>rfl,fun h=>absurd u h,?_⟩
   have hn:n=0:=by
    rcases Nat.mul_eq_zero.1 u with h|h
    ·exact h
    ·omega
   subst hn
   simpa using RepL.nil
  ·refine⟨z.cells,fun h=>absurd h u,fun _=>rfl,?_⟩
   rw[<-a1,Ph _ _ (by omega)]
   clear u he Q
   induction n with
   | zero=>simpa using RepL.nil
   | succ n ih=>rw[List.replicate_succ,List.replicate_succ,Aic,Aic];exact(a6 w S ρ H).append ih
 obtain⟨Y,N,a3,a4,W⟩:=JH (β:=β) _ (ps.map fun(i,x)=>(i,a.eval x)).toList vs _ es _ he (Uni.replicate a0) a8
  (by rw[DP];simpa[Aim,Function.comp_def]using hv) (by rw[DP];simp[Aim,Function.comp_def])
 refine⟨Y,?_,a3,a4,by simpa using W⟩
 have E:¬n*i.size > 2 ^ 24:=by omega
 by_cases u:n*i.size=0
 ·have:=a5 u
  subst this
  simp only[Instr.buildSlice,Sem.run_bind,run_underlying hu,Result.andThen_ok,AS Z,Ahj E,Ahl u,Sem.run_pure,N,Gv]
 ·have:=a7 u
  subst this
  simp only[Instr.buildSlice,Sem.run_bind,run_underlying hu,Result.andThen_ok,AS Z,Ahj E,Ahj u,Sem.run_pure,N,Gv,Br Z a2]
theorem AaS {s:Nat}(ho:o.op=.buildSlice t n ps)(hu:P.underlying t=some (.slice e))(hs:BD P e=some s)(E:n*s<=16777216)(z:1<=s)(hz:Dv P e=some zs):S4 o a P w S ρ β M vs v (.bsl s zs n (ps.toList.map (·.1))) ((ps.toList.map (·.2)).map a.eval):=fun a1 hv he=>by
 simp only[Aq,Ahd,Ahe]at he
 obtain⟨es,a2,l,hl,rfl⟩:=he
 obtain⟨Z,W,hR,hU,u⟩:=Fo (P:=P) (w:=w) (S:=S) (ρ:=ρ) (β:=β) (H:=M.H) (a:=a) hu hs E z hz hv a2
 have a0:=Ig hl
 subst a0
 obtain⟨Q,N⟩:=a1.allocI (Gw.alloc w (.cells Z e) none) (by simp)
 refine⟨.value (.slice (some ⟨w.heap.size,0,none⟩) n n),_,w.alloc (.cells Z e),_,ρ,β,by simp[execOp,ho,W],.inl rfl,Q,N,?_,fun _ _=>rfl,fun d hd=>.inl ⟨d,hd,rfl⟩⟩
 rw[immS_len]at u
 have U:=Xu hU
 have J:=N.list hR
 rw[Mm]at J
 have Y:l.length<=maxLen:=by
  have:l.length*1<=l.length*s:=Nat.mul_le_mul_left _ z
  rw[<-u]at E
  unfold maxLen;omega
 have a3:=J.1
 simp only[Ahr,U.len]at a3
 have:=RepI.ofRow (ρ:=ρ) (H:=M.H) (S:=Aha S w) (b:=w.heap.size) (cap:=l.length) (.inr rfl) (heap_alloc_new w (.cells Z e)) U (by rw[Ahz (by omega)];exact J) (Ahk _) Y
 rw[<-u]
 exact .ls l _ this
theorem Aaz {c:Go.Call}(Y:o.op=.call c)(Z:c.callee=.builtin .unsafeSliceData):S4 o a P w S ρ β M vs v .usd (c.args.toList.map a.eval):=fun N hv u=>by
 cases vs with
 | nil=>simp[Aq]at u
 | cons x r =>
  cases r with
  | cons y r=>simp[Aq]at u
  | nil =>
   obtain⟨c0,z,h⟩:=hv.inv1
   have hm:=AbY z
   simp only[Aq]at u
   split at u
   ·simp only[Ahe]at u
    subst u
    have hc:=ET (RepX.toV rfl h)
    subst hc
    exact .val N (RepX.ofV (.m .nlp)) (AD Y Z (fun _=>by rw[hm];rfl) (Lib.run_unsafeSliceData_nil w c.argTypes o.type 0 0))
   ·rename_i r W esz st len lim
    simp only[Ag,Ahi,AhB,AhS,Ahe]at u
    obtain⟨⟨⟨rfl,rfl⟩,hlen⟩,rfl⟩:=u
    have h:=RepX.toV rfl h
    cases h with|sl _ _ _ _ _ _ ty es J fz ad cap E h1 h2 h3 h4 h5 hn U ha =>
    obtain⟨p,rfl⟩:=hn
    refine .val N (RepX.ofV (.pt r W 0 0 ty 1 es J fz p E h2 (by omega) (fun Q=>?_))) (AD Y Z (fun _=>by rw[hm];rfl) (Lib.run_unsafeSliceData_row w c.argTypes o.type p len cap (by omega)))
    obtain⟨b,hp,hA⟩:=U Q (by omega)
    exact⟨b,by simpa using hp,hA⟩
   ·cases u
end
end Go.Mx
namespace Go.Mx
section
variable {P:Program} {w:World} {S:Nat->Prop} {ρ β:Nat->Nat} {M:Mem} {H:Hp}
theorem CY (em:Bool):∀(k:Nat) (t:TypeId) (ks:List Nat),CR P k t=some ks -> ∀(d:Nat) (w:World) (S:Nat->Prop) (c:Value) (cs:List Value) (xs:List I),Vt P t c cs->LI w S xs cs->xs.length=ks.length ->
  (Instr.checkKey em (d+k) t c).run P w=.ok () w
 | 0,_,_,h,_=>by simp[CR]at h
 | k+1,t,ks,h,d=>by
  intro w S c cs xs J Y hl
  rw[<-Nat.add_assoc]
  simp only[CR]at h
  split at h
  ·rename_i u
   simp only[Instr.checkKey,Sem.run_bind,run_underlying u,Result.andThen_ok,Sem.run_pure]
  ·rename_i u
   simp only[Instr.checkKey,Sem.run_bind,run_underlying u,Result.andThen_ok,Sem.run_pure]
  ·rename_i u
   simp only[Instr.checkKey,Sem.run_bind,run_underlying u,Result.andThen_ok,Sem.run_pure]
  ·rename_i fs u
   have N:Cn P t=some true:=by simp[Cn,u]
   simp only[Ag,AhQ]at h
   obtain⟨hst,h⟩:=h
   obtain⟨a,rfl,rfl⟩:=J.agg N
   simp only[Instr.checkKey,Sem.run_bind,run_underlying u,Result.andThen_ok]
   rw[<-Array.forIn_toList]
   have IH:=fun t ks (hk:CR P k t=some ks)=>CY em k t ks hk d w S
   have hx0:LI w S xs (a.toList.drop 0):=by simpa using Y
   clear Y J u hst
   generalize (0:Nat)=o0 at h hx0
   generalize fs.toList=L at h
   induction L generalizing o0 ks xs with
   | nil=>simp
   | cons f L ih =>
    simp only[JG,Ag,Ahi,AhB,Aht,Ahd,Ahe,AR]at h
    obtain⟨⟨ho,hn⟩,s,W,s',⟨i,Z,rfl⟩,z,l,Q,rfl⟩:=h
    simp only[Ahv]at hl
    obtain⟨c,U,J⟩:=DV W Z z.symm hx0 (by omega)
    have p2:=IH _ _ W c _ _ J (hx0.take _) (by rw[Ahx];omega)
    rw[<-ho]at U
    simp only[List.forIn_cons,Sem.run_bind,hn,ne_eq,not_false_eq_true,if_true,Result.andThen_ok,U,p2,Sem.run_pure]
    have E:=hx0.drop s.length
    rw[Aiw]at E
    rw[<-z]at Q
    exact ih (hl:=by rw[AhT];omega) (h:=Q) (hx0:=E)
  ·rename_i n e u
   have N:Cn P t=some true:=by simp[Cn,u]
   simp only[Ahd,Ag,AhB,Ahe,AR]at h
   obtain⟨s,W,s',⟨i,Z,rfl⟩,z,rfl⟩:=h
   obtain⟨a,rfl,rfl⟩:=J.agg N
   simp only[Instr.checkKey,Sem.run_bind,run_underlying u,Result.andThen_ok]
   simp only[Std.Legacy.Range.forIn_eq_forIn_range',Std.Legacy.Range.size,Nat.sub_zero,Nat.add_one_sub_one,Nat.div_one]
   have hx0:LI w S xs (a.toList.drop (0*s.length)):=by simpa using Y
   have hl0:xs.length=n*s.length:=by rw[hl];simp[List.length_flatten]
   clear Y J u hl
   generalize (0:Nat)=j at hx0
   induction n generalizing j xs with
   | zero=>simp
   | succ n ih =>
    rw[AhU]at hl0
    obtain⟨c,U,J⟩:=DV W Z z.symm hx0 (by omega)
    have p2:=CY em k e s W d w S c _ _ J (hx0.take _) (by rw[Ahx];omega)
    rw[z]at U
    simp only[List.range'_succ,List.forIn_cons,Sem.run_bind,AS Z,Result.andThen_ok,U,p2,Sem.run_pure]
    have E:=hx0.drop s.length
    rw[Aiw,show j*s.length+s.length=(j+1)*s.length by rw[AhU];omega]at E
    exact ih (hl0:=by rw[AhT];omega) (hx0:=E)
  ·cases h
variable {t:TypeId} {kt:KT}
theorem Mf (h:Sr P t=some kt):CR P 6 t=some kt.ks/\Cn P t=some kt.ag:=by
 simp only[Sr,Ahd,Ahe]at h
 obtain⟨ks,z,ag,u,rfl⟩:=h
 exact⟨z,u⟩
variable {c:Value}
theorem Di {key:I}(N:Bool)(h:Sr P t=some kt)(Q:Gy kt key=true)(E:RepI w S key c):(Instr.checkKey N 10000 t c).run P w=.ok () w:=by
 obtain⟨U,z⟩:=Mf h
 have u:∃r,Dx kt key key=some r:=by
  unfold Gy at Q
  split at Q
  ·rename_i r E;exact⟨r,E⟩
  ·cases Q
 obtain⟨r,u⟩:=u
 unfold Dx at u
 cases hag:kt.ag with
 | true =>
  rw[hag]at u z
  cases key with
  | ag xs =>
   obtain⟨cs,rfl,W⟩:=RepV.ofAgI (ρ:=id) (H:=[]) (.m E)
   exact CY N 6 t _ U 9994 w S _ _ xs (.inl ⟨z,_,rfl,rfl⟩) (.ofL W) (Ek _ _ _ _ u).1
  | _=>simp at u
 | false =>
  rw[hag]at u z
  simp only at u
  split at u
  ·rename_i k J
   rw[J]at U
   exact CY N 6 t _ U 9994 w S c [c] [key] (.inr ⟨z,rfl⟩) (RepL.cons (.m E) .nil) (by simp)
  ·cases u
def Ents (w:World)(S:Nat->Prop)(ρ:Nat->Nat)(H:Hp)(es:List (I×V))(ents:List MapEntry):Prop:=All2 (fun p (e:MapEntry)=>RepI w S p.1 e.key/\RepV w S ρ H p.2 e.val) es ents
def Jx (kt:KT)(key:I):List (I×V)->Option (Option Nat)
 | []=>some none
 | (k,_)::r=>(Dx kt key k).bind fun q=>match q with
  | true=>some (some 0)
  | false=>(Jx kt key r).bind fun p=>some (p.map (· + 1))
theorem MB {kt:KT}{key:I}:∀ {es:List (I×V)} {q:Option V},Ky kt key es=some q -> ∃p,Jx kt key es=some p/\q=p.bind fun i=>(es[i]?).map (·.2)
 | [],q,h=>by simp[Ky]at h;subst h;exact⟨none,rfl,rfl⟩
 | (k,x)::r,q,h=>by
  simp only[Ky,Ahd]at h
  obtain⟨b,u,h⟩:=h
  cases b with
  | true=>simp only[Ahe]at h;subst h;exact⟨some 0,by simp[Jx,u],rfl⟩
  | false =>
   obtain⟨p,z,rfl⟩:=MB h
   refine⟨p.map (· + 1),by simp[Jx,u,z],?_⟩
   cases p <;> simp
theorem OQ {kt:KT}{key:I}{x:V}:∀ {es es':List (I×V)},WB kt key x es=some es' -> ∃p,Jx kt key es=some p/\es'=match p with
  | some i=>es.set i (key,x)
  | none=>es++[(key,x)]
 | [],es',h=>by simp[WB]at h;subst h;exact⟨none,rfl,rfl⟩
 | (k,y)::r,es',h=>by
  simp only[WB,Ahd]at h
  obtain⟨b,u,h⟩:=h
  cases b with
  | true=>simp only[Ahe]at h;subst h;exact⟨some 0,by simp[Jx,u],rfl⟩
  | false =>
   simp only[Ahd,Ahe]at h
   obtain⟨l,z,rfl⟩:=h
   obtain⟨p,E,rfl⟩:=OQ z
   refine⟨p.map (· + 1),by simp[Jx,u,E],?_⟩
   cases p <;> simp
theorem PJ {kt:KT}{key:I}:∀ {es es':List (I×V)},Afe kt key es=some es' -> ∃p,Jx kt key es=some p/\es'=match p with
  | some i=>es.eraseIdx i
  | none=>es
 | [],es',h=>by simp[Afe]at h;subst h;exact⟨none,rfl,rfl⟩
 | (k,y)::r,es',h=>by
  simp only[Afe,Ahd]at h
  obtain⟨b,u,h⟩:=h
  cases b with
  | true=>simp only[Ahe]at h;subst h;exact⟨some 0,by simp[Jx,u],rfl⟩
  | false =>
   simp only[Ahd,Ahe]at h
   obtain⟨l,z,rfl⟩:=h
   obtain⟨p,E,rfl⟩:=PJ z
   refine⟨p.map (· + 1),by simp[Jx,u,E],?_⟩
   cases p <;> simp
def DH (ents:List MapEntry)(i:Nat)(p:Option Nat):Option (Nat×Value):=p.bind fun j=>(ents[j]?).map fun e=>(i+j,e.val)
theorem JO (e:MapEntry)(ents:List MapEntry)(i:Nat)(p:Option Nat):DH (e::ents) i (p.map (· + 1))=DH ents (i+1) p:=by
 cases p with
 | none=>rfl
 | some j=>simp only[DH,Ail,Ahp,List.getElem?_cons_succ];congr 1;funext e;congr 1;omega
theorem PG {t:TypeId}{ks:List Nat}{xs:List I}{c:Value}(U:CR P 6 t=some ks)(N:Cn P t=some true)(W:RepI w S (.ag xs) c):∀(es:List (I×V)) (ents:List MapEntry) (i:Nat) (p:Option Nat),Ents w S ρ H es ents->Jx ⟨true,ks⟩ (.ag xs) es=some p ->
  (Instr.findAsking t c ents i).run P w=.ok (DH ents i p) w
 | [],ents,i,p,E,u=>by
  cases E
  simp only[Jx,Ahe]at u
  subst u
  simp[Instr.findAsking,DH]
 | (k,x)::es,ents,i,p,E,u=>by
  cases E with|cons hd E =>
  rename_i Q ents
  simp only[Jx,Ahd]at u
  obtain⟨b,J,u⟩:=u
  simp only[Dx]at J
  cases k with
  | ag ys =>
   obtain⟨Y,rfl,lx⟩:=RepV.ofAgI (ρ:=id) (H:=[]) (.m W)
   obtain⟨cy,Z,ly⟩:=RepV.ofAgI (ρ:=id) (H:=[]) (.m hd.1)
   have z:=Kv 6 t ks U 9994 w S (.agg Y) (.agg cy) _ _ _ ys b (.inl ⟨N,_,rfl,rfl⟩) (.inl ⟨N,_,rfl,rfl⟩) (.ofL lx) (.ofL ly) J
   have z:(Op.equal t (.agg Y) Q.key).run P w=.ok b w:=by rw[Z];exact z
   simp only[Instr.findAsking,Sem.run_bind,z,Result.andThen_ok]
   cases b with
   | true=>simp only[Ahe]at u;subst u;simp[DH]
   | false =>
    simp only[Ahd,Ahe]at u
    obtain⟨q,z,rfl⟩:=u
    rw[JO]
    simpa using PG U N W es ents (i+1) q E z
  | _=>simp at J
theorem LC {k:Nat}{d:TypeDesc}{x y:I}{r:Bool}{c':Value}(z:CR P 6 t=some [k])(J:Cn P t=some false)(E:P.underlying t=some d)(h:eqC k x y=some r)(Q:RepI w S x c)(N:RepI w S y c'):Instr.sameNow d c c'=some r:=by
 have u:(k=0->d=.bool)/\(k=1 -> ∃j,d=.int j)/\(k=2->d=.string):=by
  simp only[CR,E]at z
  simp only[Cn,E,Ahp]at J
  cases d <;> simp at z J <;> subst z <;> simp
 rcases Ix h Q N with ⟨rfl,p,q,rfl,rfl,rfl⟩|⟨rfl,j,p,q,rfl,rfl,rfl⟩|⟨rfl,p,q,rfl,rfl,rfl⟩
 ·rw[u.1 rfl];rfl
 ·obtain⟨U,rfl⟩:=u.2.1 rfl;simp[Instr.sameNow]
 ·rw[u.2.2 rfl];rfl
theorem MA {t:TypeId}{k:Nat}{d:TypeDesc}{x:I}{c:Value}(J:CR P 6 t=some [k])(U:Cn P t=some false)(E:P.underlying t=some d)(Q:RepI w S x c):∀(es:List (I×V)) (ents:List MapEntry) (i:Nat) (p:Option Nat),Ents w S ρ H es ents->Jx ⟨false,[k]⟩ x es=some p ->
  Instr.findNow d c ents i=some (DH ents i p)
 | [],ents,i,p,z,u=>by
  cases z
  simp only[Jx,Ahe]at u
  subst u
  simp[Instr.findNow,DH]
 | (y,v)::es,ents,i,p,z,u=>by
  cases z with|cons hd z =>
  rename_i Z ents
  simp only[Jx,Ahd]at u
  obtain⟨b,N,u⟩:=u
  simp only[Dx]at N
  have Y:=LC J U E N Q hd.1
  simp only[Instr.findNow,Y]
  cases b with
  | true=>simp only[Ahe]at u;subst u;simp[DH]
  | false =>
   simp only[Ahd,Ahe]at u
   obtain⟨q,W,rfl⟩:=u
   rw[JO]
   exact MA J U E Q es ents (i+1) q z W
theorem Dh {key:I}{es:List (I×V)}{ents:List MapEntry}{p:Option Nat}(h:Sr P t=some kt)(W:RepI w S key c)(z:Gy kt key=true)(Y:Ents w S ρ H es ents)(Z:Jx kt key es=some p):
  (Instr.findKey t c ents).run P w=.ok (DH ents 0 p) w:=by
 obtain⟨Q,u⟩:=Mf h
 obtain⟨ag,ks⟩:=kt
 cases ag with
 | true =>
  have N:∃xs,key=.ag xs:=by
   unfold Gy at z
   simp only[Dx]at z
   split at z
   ·rename_i U;split at U
    ·exact⟨_,rfl⟩
    ·cases U
   ·cases z
  obtain⟨xs,rfl⟩:=N
  rw[run_findKey_eq w (by
   simp only[Cn,Ahd]at u
   obtain⟨d,E,u⟩:=u
   rw[E]
   cases d <;> simp at u <;> rfl)]
  exact PG Q u W es ents 0 p Y Z
 | false =>
  have hk:∃k,ks=[k]:=by
   obtain⟨ag,J,hl⟩:=My Q
   rw[u]at J
   simp only[Ahe]at J
   have:=hl J.symm
   exact List.length_eq_one_iff.1 this
  obtain⟨k,rfl⟩:=hk
  have E:∃d,P.underlying t=some d:=by
   simp only[Cn,Ahd]at u
   obtain⟨d,E,_⟩:=u
   exact⟨d,E⟩
  obtain⟨d,E⟩:=E
  exact MapKept.run_findKey E (MA Q u E W es ents 0 p Y Z)
end
end Go.Mx
namespace Go.Mx
section
variable {P:Program} {w:World} {S:Nat->Prop} {ρ β:Nat->Nat} {M:Mem} {H:Hp} {o:Oper} {a:Act} {vs:List V} {v:V}
variable {l:List V}
theorem Hx {n:Nat}{xs:List V}(h:Dw n xs=some l):l=xs.take n/\l.length=n:=by
 simp only[Dw,Ag,AhB,Ahe]at h
 exact⟨h.2.symm,by rw[<-h.2];exact h.1⟩
variable {off sz:Nat}
theorem Pj {esz ix:Nat}{es:L0}(E:Uni esz es)(h:CW esz es ix off sz=some l):l=(es.flatten.drop (ix*esz+off)).take sz/\l.length=sz:=by
 unfold CW at h
 split at h
 ·rename_i J
  rw[AhS]at J
  simp only[Ahd,AT]at h
  obtain⟨e,u,z⟩:=h
  obtain⟨rfl,N⟩:=Hx z
  refine⟨?_,N⟩
  rw[Hz E u,List.drop_take,List.take_take,Nat.min_eq_left (by omega),Aiw]
  congr 2
  have:=Nat.div_add_mod off esz
  rw[AhU,AiK (off / esz) esz]
  omega
 ·exact Hx h
variable {x:V} {c:Value} {cs:List V}
theorem FX (hok:Ok w S ρ β M)(W:RepX w S ρ β M.H x c)(h:readA M sz x=some cs):
  ∃b off cells,c=.pointer (some ⟨b,off,none⟩)/\cells.length=sz/\RepL w S ρ M.H cs cells/\(∀(j:Nat) u,cells[j]? = some u->w.cell? ⟨b,off+j,none⟩=some u)/\(AB x=true->S b \/ ∃r,r<M.H.length/\b=ρ r/\Fp x=[r]):=by
 unfold readA at h
 split at h
 ·rename_i d off
  simp only[Ahd]at h
  obtain⟨cs0,h0,ht⟩:=h
  obtain⟨cur,T,hh,hr⟩:=hok.boxes d cs0 h0
  obtain⟨rfl,hl⟩:=Hx ht
  have hR:=(hr.drop off).take sz
  refine⟨β d,off,_,W,by rw[hR.1];exact hl,hR,fun j u E=>?_,by simp[AB]⟩
  rw[AhN]at E
  split at E
  ·rw[AiI]at E
   rw[cell_of_row w _ _ cur T _ hh]
   simpa using E
  ·cases E
 ·rename_i r ver ix off
  simp only[Ahd,AT]at h
  obtain⟨row,N,h⟩:=h
  split at h
  ·rename_i ty esz es base fz
   simp only[Ag,Ahi,Aix,AhS,AhB]at h
   obtain⟨⟨hbv,Q⟩,ht⟩:=h
   have W:=RepX.toV rfl W
   cases W with|pt _ _ _ _ ty' esz' es' base' fz' p J h2 hix hb =>
   rw[N]at J
   simp only[Ahe,Row.cs.injEq]at J
   obtain⟨rfl,rfl,rfl,rfl,rfl⟩:=J
   obtain⟨b,rfl,hA⟩:=hb hbv
   obtain⟨_,hpos,hU,_,_,cur,cap,mk,hh,_,hcs,hcap,_,hr⟩:=hok.rows r _ N
   obtain⟨hl1,hl2⟩:=Pj hU ht
   subst hl1
   have hR:=(hr.drop (ix*esz+off)).take sz
   have Z:∀(j:Nat) u,(((cur.toList.take (es.length*esz)).drop (ix*esz+off)).take sz)[j]? = some u->w.cell? ⟨ρ r,ix*esz+off+j,none⟩=some u:=fun j u E=>by
    rw[AhN]at E
    split at E
    ·rw[AiI,AhN]at E
     split at E
     ·rw[cell_of_row w _ _ cur _ mk hh]
      simpa using E
     ·cases E
    ·cases E
   refine⟨b,ix*esz+off,_,rfl,by rw[hR.1];exact hl2,hR,fun j u E=>?_,fun _=>?_⟩
   rotate_left
   ·rcases hA with rfl|⟨hSb,_⟩
    ·exact .inr ⟨r,(Ahg.1 N).1,rfl,rfl⟩
    ·exact .inl hSb
   rcases hA with rfl|⟨_,hne,Y⟩
   ·exact Z j u E
   ·have U:j<sz:=by
     have:=(Ahg.1 E).1
     rw[Ahx]at this
     omega
    rcases Q with Q|Q
    ·have:ix*esz+esz<=ver*esz:=by
      have:=Aif esz (Nat.succ_le_of_lt hix)
      rw[Nat.succ_mul]at this
      exact this
     rw[Y _ (by omega)]
     exact Z j u E
    ·exact absurd Q hne
  ·cases h
 ·rename_i xs
  obtain⟨rfl,hl⟩:=Hx h
  have W:=(RepX.toV rfl W).imm
  cases W with|pt _ b off c hS hc hr =>
  have hlen:sz<=xs.length:=by rw[Ahx,Ahr]at hl;omega
  refine⟨b,off,(List.range sz).map c,rfl,by simp,⟨by simp;omega,fun j y E=>?_⟩,fun j u E=>?_,fun _=>.inl hS⟩
  ·rw[AhN]at E
   split at E
   ·rename_i U
    rw[AhD]at E
    obtain⟨z,hz,rfl⟩:=AhM.1 E
    exact⟨c j,by simp[U],.m (hr j z hz)⟩
   ·cases E
  ·have U:j<sz:=by have:=(Ahg.1 E).1;simpa using this
   have hz:xs[j]? = some xs[j]:=Ahh (by omega)
   rw[hc j _ hz]
   simp[U]at E
   rw[E]
 ·cases h
variable {t:TypeId} {ag:Bool} {i:TypeInfo}
theorem HY (z:Cn P t=some ag)(hi:P.info? t=some i)(hs:ag=true\/i.size=1){b:Nat}{cells:List Value}(hl:cells.length=i.size)(Q:∀(j:Nat) u,cells[j]? = some u->w.cell? ⟨b,off+j,none⟩=some u) 
 (U:RepL w S ρ H cs cells) (Y:DD ag cs=some v):∃c,(loadVar t ⟨b,off,none⟩).run P w=.ok c w/\RepV w S ρ H v c:=by
 rcases FO (cs:=cells.toArray) (by simpa using U) Y with ⟨rfl,J⟩|⟨rfl,c,N,J⟩
 ·refine⟨_,?_,J⟩
  have:=run_loadCells_list (P:=P) w ⟨b,off,none⟩ cells (fun j u W=>by rw[Bz];exact Q j u W)
  rw[hl]at this
  simp only[loadVar,Sem.run_bind,DN z,Result.andThen_ok,if_true,AS hi,this,Sem.run_pure]
 ·refine⟨c,?_,J⟩
  have E:cells=[c]:=by simpa using AiE Array.toList N
  subst E
  have:=Q 0 c rfl
  simp only[Nat.add_zero]at this
  simp[loadVar,DN z,this,run_load,Result.andThen]
abbrev S5 (o:Oper)(a:Act)(P:Program)(w:World)(S:Nat->Prop)(ρ β:Nat->Nat)(M:Mem)(vs:List V)(v:V)(q:OR)(es:List Value):Prop:=Ok w S ρ β M->All2 (RepX w S ρ β M.H) vs es->readX M q vs=some v->Outc w S ρ β M (.r q) v M ((execOp a.eval o).run P w)
theorem OZ {x:Operand}{s:Nat}(ho:o.op=.load t x)(N:Cn P t=some ag)(hs:BD P t=some s)(U:ag=true\/s=1):S5 o a P w S ρ β M vs v (.ld ag s) [a.eval x]:=fun E hv W=>by
 cases hv with|cons h Z =>
 cases Z
 obtain⟨i,Y,rfl⟩:=AR.1 hs
 simp only[readX,Ahd]at W
 obtain⟨cs,Q,J⟩:=W
 obtain⟨b,off,cells,hx,hl,hR,hc,_⟩:=FX E h Q
 obtain⟨c,z,u⟩:=HY (P:=P) (w:=w) N Y U hl hc hR J
 refine .val E (RepX.ofV u) ?_
 simp[execOp,ho,hx,Instr.loadAt,Instr.sureAddr,z]
theorem LS:∀ {es:LT} {l:List (I×V)},pairs es=some l->l.length=es.length /\ ∀(j:Nat) k x,l[j]? = some (k,x) -> ∃y,x=.m y/\es[j]? = some [k,y]
 | [],l,h=>by simp[pairs]at h;subst h;simp
 | [k,x]::r,l,h=>by
  simp only[pairs,Ahd,Ahe]at h
  obtain⟨U,z,rfl⟩:=h
  obtain⟨N,J⟩:=LS z
  refine⟨by simp[N],fun j E Q u=>?_⟩
  cases j with
  | zero=>simp at u;obtain⟨rfl,rfl⟩:=u;exact⟨x,rfl,rfl⟩
  | succ j=>simpa using J j E Q (by simpa using u)
 | []::_,_,h=>by simp[pairs]at h
 | [_]::_,_,h=>by simp[pairs]at h
 | (_::_::_::_)::_,_,h=>by simp[pairs]at h
variable {α:Type}
theorem All2.ofGet {β:Type}{R:α->β->Prop}:∀ {l:List α} {m:List β},m.length=l.length->(∀(j:Nat) x,l[j]? = some x -> ∃y,m[j]? = some y/\R x y)->All2 R l m
 | [],[],_,_=>.nil
 | [],_::_,h,_=>by simp at h
 | _::_,[],h,_=>by simp at h
 | x::l,y::m,h,hr=>by
  obtain⟨N,z,u⟩:=hr 0 x rfl
  simp at z
  subst z
  exact .cons u (All2.ofGet (by simpa using h) fun j J E=>by simpa using hr (j+1) J (by simpa using E))
theorem All2.get {β:Type}{R:α->β->Prop}:∀ {l:List α} {m:List β},All2 R l m -> ∀(j:Nat) x,l[j]? = some x -> ∃y,m[j]? = some y/\R x y
 | _,_,.nil,j,x,h=>by simp at h
 | _,_,.cons hxy t,0,x,h=>by simp at h;subst h;exact⟨_,rfl,hxy⟩
 | _,_,.cons hxy t,j+1,x,h=>by simpa using t.get j x (by simpa using h)
variable {es:List (I×V)}
theorem Mc (Z:Ok w S ρ β M)(N:RepX w S ρ β M.H x c)(h:mapOf M.H x=some es):
  (c=.map none/\es=[]) \/ ∃r ents clock,c=.map (some r)/\w.heap[r]? = some (.map ents clock)/\Ents w S ρ M.H es ents.toList:=by
 unfold mapOf at h
 split at h
 ·simp only[Ahe]at h
  subst h
  have:=(RepX.toV rfl N).imm
  cases this
  exact .inl ⟨rfl,rfl⟩
 ·rename_i l
  have:=(RepX.toV rfl N).imm
  obtain⟨h1,W⟩:=LS h
  cases this with|mp _ r ents clock ks xs hS hw hl hp hk U a0 J =>
  refine .inr ⟨r,ents,clock,rfl,hw,All2.ofGet (by simp;omega) fun j p E=>?_⟩
  obtain⟨k,x⟩:=p
  obtain⟨y,rfl,z⟩:=W j k x E
  have Q:=hk j k y z
  have a2:=U j k y z
  cases hen:ents[j]? with
  | none=>simp[hen]at Q
  | some e =>
   simp only[hen,Ail,Ahe]at Q a2
   exact⟨e,by simpa using hen,by rw[Q];exact a0 j k y z,by rw[a2];exact .m (J j k y z)⟩
 ·rename_i r
  simp only[Ahd,AT]at h
  obtain⟨row,u,h⟩:=h
  split at h
  ·rename_i es' fz
   simp only[Ahe]at h
   subst h
   have:=RepX.toV rfl N
   cases this
   obtain⟨_,_,ents,clock,hh,⟨hl,_⟩,hE⟩:=Z.rows r _ u
   exact .inr ⟨ρ r,ents,clock,rfl,hh,All2.ofGet (by simpa using hl) fun j p E=>by
    obtain⟨Y,h1,W⟩:=hE j p.1 p.2 E
    exact⟨Y,by simpa using h1,W⟩⟩
  ·cases h
 ·cases h
theorem NQ {k:I}(h:AbD x=some k):x=.m k:=by cases x <;> simp[AbD]at h;rw[h]
def EV (k e:TypeId)(y:Value)(ok:Bool)(es:Array MapEntry):Sem Value:=do
 Instr.checkKey es.isEmpty 10000 k y
 let (v,b) <-match <-Instr.findKey k y es.toList with
  | some (_,v)=>pure (v,true)
  | none=>pure (<-zeroValue e,false)
 pure (if ok then .tuple #[v,.bool b] else v)
variable {zs:List V}
theorem Jp {z:Value}{U:V}(hi:P.info? t=some i)(W:i.zero=some z)(u:Lw P t ag=true)(N:RepL w S ρ H zs z.cells.toList)(Q:DD ag zs=some U):RepV w S ρ H U z:=by
 simp only[Lw,hi,Ahp,W]at u
 cases z with
 | agg cs =>
  simp only at u
  subst u
  rcases FO (cs:=cs) N Q with ⟨_,E⟩|⟨h,_⟩
  ·exact E
  ·cases h
 | _ =>
  simp only[AhQ]at u
  subst u
  rcases FO (cs:=#[_]) N Q with ⟨h,_⟩|⟨_,c,J,E⟩
  ·cases h
  ·simp at J
   rw[J]
   exact E
variable {k e:TypeId} {ok:Bool}
theorem Ha {kt:KT}{key:I}{cy:Value}{ents:Array MapEntry}{q:Option V}(hz:Dv P e=some zs)(hg:Lw P e ag=true)(Z:Sr P k=some kt) 
  (W:RepI w S key cy) (E:Gy kt key=true) (hE:Ents w S ρ H es ents.toList) (hq:Ky kt key es=some q)
  (Q:Aby zs ag ok q=some v):∃c,(EV k e cy ok ents).run P w=.ok c w/\RepV w S ρ H v c:=by
 obtain⟨i,z,hi,u,hz2,hz3,Y⟩:=CE hz
 obtain⟨p,hp,rfl⟩:=MB hq
 have U:=Di (P:=P) (w:=w) ents.isEmpty Z E W
 have J:=Dh (P:=P) Z W E hE hp
 have fin:∀(x:V) (c:Value) (b:Bool),RepV w S ρ H x c->RepV w S ρ H (okT ok x b) (if ok=true then .tuple #[c,.bool b] else c):=fun x c b hx=>by
  cases ok
  ·simpa[okT]using hx
  ·exact RepL.toTu (cs:=#[c,.bool b]) (.cons hx (.cons (.m (.b b)) .nil))
 cases p with
 | none =>
  simp only[Option.bind_none,Aby,Ahd,Ahe]at Q
  obtain⟨v0,N,rfl⟩:=Q
  refine⟨_,?_,fin v0 z false (Jp hi u hg (Y w S ρ H) N)⟩
  simp[EV,U,J,DH,Br hi u]
 | some j =>
  simp only[Ahp]at Q
  cases hej:es[j]? with
  | none =>
   have hn:ents.toList[j]? = none:=by
    rw[Ahn]at hej ⊢
    rw[<-All2.length hE]
    exact hej
   simp only[hej,Option.map_none,Aby,Ahd,Ahe]at Q
   obtain⟨v0,N,rfl⟩:=Q
   refine⟨_,?_,fin v0 z false (Jp hi u hg (Y w S ρ H) N)⟩
   have:DH ents.toList 0 (some j)=none:=by simp only[DH,Ahp,hn,Option.map_none]
   simp[EV,U,J,this,Br hi u]
  | some kx =>
   obtain⟨k0,x⟩:=kx
   obtain⟨a0,h1,_,h2⟩:=All2.get hE j _ hej
   simp only[hej,Ail,Aby,Ahe]at Q
   subst Q
   refine⟨_,?_,fin x a0.val true h2⟩
   have:DH ents.toList 0 (some j)=some (0+j,a0.val):=by simp only[DH,Ahp,h1,Ail]
   simp[EV,U,J,this]
theorem AaG {x y:Operand}{kt:KT}(ho:o.op=.lookup t x y ok)(hu:P.underlying t=some (.map k e))(hz:Dv P e=some zs)(hg:Lw P e ag=true)(Q:Sr P k=some kt):S5 o a P w S ρ β M vs v (.lkp kt zs ag ok) [a.eval x,a.eval y]:=fun J hv N=>by
 cases hv with|cons h t1 =>
 cases t1 with|cons h1 t2 =>
 cases t2
 simp only[readX,Ahd,Ag]at N
 obtain⟨es,a0,key,W,q,⟨E,hq⟩,N⟩:=N
 have Z:=NQ W
 subst Z
 have U:=(RepX.toV rfl h1).imm
 rcases Mc J h a0 with ⟨Y,rfl⟩|⟨r,ents,clock,Y,hw,hE⟩
 ·obtain⟨c,z,u⟩:=Ha (P:=P) (v:=v) (ents:=#[]) hz hg Q U E .nil hq N
  refine .val J (RepX.ofV u) ?_
  have:(Instr.lookup t (.map none) (a.eval y) ok).run P w=.ok c w:=by
   rw[<-z]
   simp[Instr.lookup,EV,run_underlying hu]
   rfl
  simp[execOp,ho,Y,this]
 ·obtain⟨c,z,u⟩:=Ha (P:=P) (v:=v) hz hg Q U E hE hq N
  refine .val J (RepX.ofV u) ?_
  have:(Instr.lookup t (.map (some r)) (a.eval y) ok).run P w=.ok c w:=by
   rw[<-z]
   simp[Instr.lookup,EV,run_underlying hu,MapKept.run_getObj_map hw]
   rfl
  simp[execOp,ho,Y,this]
theorem WK {c:Go.Call}(Z:o.op=.call c)(Q:c.callee=.builtin .len)(W:c.argTypes[0]? = some t)(N:P.underlying t=some (.map k e)):S5 o a P w S ρ β M vs v .lenm (c.args.toList.map a.eval):=fun u hv E=>by
 cases vs with
 | nil=>simp[readX]at E
 | cons x r =>
  cases r with
  | cons y r=>simp[readX]at E
  | nil =>
   obtain⟨c0,z,h⟩:=hv.inv1
   have Y:=AbY z
   simp only[readX,vi,Ahd,Ahe]at E
   obtain⟨es,J,rfl⟩:=E
   rcases Mc u h J with ⟨rfl,rfl⟩|⟨r,ents,clock,rfl,hw,hE⟩
   ·exact .val u (RepX.ofV (.m (.i _ _))) (AD Z Q (fun _=>by rw[Y];rfl) (by simp[Builtin.len_,W,run_underlying N,goInt]))
   ·have U:=All2.length hE
    refine .val u (RepX.ofV (.m (.i _ _))) (AD Z Q (fun _=>by rw[Y];rfl) ?_)
    simp only[AhX]at U
    simp[Builtin.len_,W,run_underlying N,MapKept.run_getObj_map hw,goInt,U]
end
end Go.Mx
namespace Go.Mx
section
variable {P:Program} {w:World} {S:Nat->Prop} {ρ β:Nat->Nat} {M:Mem} {H:Hp} {o:Oper} {a:Act} {vs:List V} {v:V}
theorem RepI.cells {es:LT}{ad:Option Addr}{n cap:Nat}(h:RepI w S (.sl es) (.slice ad n cap)):n=es.length /\ ∃esz cells,Uni esz es/\RepL w S ρ H (es.flatten.map .m) cells /\
  (es≠[] -> ∃b off,ad=some ⟨b,off,none⟩/\S b /\ ∀(j:Nat) u,cells[j]? = some u->w.cell? ⟨b,off+j,none⟩=some u):=by
 cases h with
 | sl _ _ _ esz b off cs hcap hm Z ha hnn hc hr =>
  have Q:Uni esz es:=Z
  refine⟨rfl,esz,(List.range (es.length*esz)).map fun p=>cs (p / esz) (p%esz),Q,⟨by rw[Ahr,List.length_range,Ahr,Q.len],fun j y N=>?_⟩,fun U=>⟨b,off,(ha U).1,(ha U).2,fun j u N=>?_⟩⟩
  ·rw[AhD]at N
   obtain⟨z,W,rfl⟩:=AhM.1 N
   have E:j<es.length*esz:=by rw[<-Q.len];exact(Ahg.1 W).1
   have J:0<esz:=Nat.pos_of_ne_zero (by rintro rfl;simp at E)
   obtain⟨e,Y,hx⟩:=PE J Q W
   exact⟨_,by simp[E],.m (hr _ _ _ _ Y hx)⟩
  ·have E:j<es.length*esz:=by have:=(Ahg.1 N).1;simpa using this
   have J:0<esz:=Nat.pos_of_ne_zero (by rintro rfl;simp at E)
   have W:es.flatten[j]? = some (es.flatten[j]'(by rw[Q.len];exact E)):=Ahh _
   obtain⟨e,Y,hx⟩:=PE J Q W
   have:=hc _ _ _ _ Y hx
   rw[show j / esz*esz+j%esz=j by rw[AiK];exact Nat.div_add_mod j esz]at this
   rw[this]
   simp[E]at N
   rw[N]
theorem Iy {x:V}{c:Value}{es:L0}(hok:Ok w S ρ β M)(Y:RepX w S ρ β M.H x c)(h:elems M.H x=some es):
  ∃ad cap esz cells,c=.slice ad es.length cap/\Uni esz es/\RepL w S ρ M.H es.flatten cells /\
   (es≠[] -> ∃b off,ad=some ⟨b,off,none⟩/\(∀(j:Nat) u,cells[j]? = some u->w.cell? ⟨b,off+j,none⟩=some u)/\(S b \/ ∃r,r<M.H.length/\b=ρ r/\Fp x=[r])):=by
 have imm:∀ {l:LT},RepI w S (.sl l) c -> ∃ad cap esz cells,c=.slice ad (Bn l).length cap/\Uni esz (Bn l)/\RepL w S ρ M.H (Bn l).flatten cells /\
   (Bn l≠[] -> ∃b off,ad=some ⟨b,off,none⟩/\(∀(j:Nat) u,cells[j]? = some u->w.cell? ⟨b,off+j,none⟩=some u)/\(S b \/ ∃r,r<M.H.length/\b=ρ r/\Fp x=[r])):=fun {l} hI=>by
  obtain⟨ad,cap,rfl,_⟩:=Ee hI
  obtain⟨_,esz,cells,hu,hr,hc⟩:=RepI.cells (ρ:=ρ) (H:=M.H) hI
  refine⟨ad,cap,esz,cells,by rw[immS_len],WC hu,by rw[Mm];exact hr,fun Q=>?_⟩
  obtain⟨b,off,h1,h3,h2⟩:=hc (by rintro rfl;exact Q rfl)
  exact⟨b,off,h1,h2,.inl h3⟩
 unfold elems at h
 split at h
 ·simp only[Ahe]at h
  subst h
  have:=ET (RepX.toV rfl Y)
  subst this
  exact⟨none,0,0,[],rfl,fun e he=>by simp at he,.nil,fun h=>absurd rfl h⟩
 ·simp only[Ahe]at h
  subst h
  exact imm (RepX.toV rfl Y).imm
 ·simp only[Ahe]at h
  subst h
  exact imm (Jz (RepX.toV rfl Y))
 ·rename_i r ver esz st len lim
  simp only[Ahd,AT]at h
  obtain⟨row,J,h⟩:=h
  split at h
  ·rename_i ty esz' N base fz
   simp only[Ag,Ahi,AhS,AhB,Ahe]at h
   obtain⟨⟨a2,rfl⟩,rfl⟩:=h
   have Y:=RepX.toV rfl Y
   cases Y with|sl _ _ _ _ _ _ ty' es' a1 fz' ad cap z h1 h2 h3 h4 h5 hn hb ha =>
   rw[J]at z
   simp only[Ahe,Row.cs.injEq]at z
   obtain⟨rfl,_,rfl,rfl,rfl⟩:=z
   obtain⟨_,hpos,Z,_,_,cur,cap',mk,hh,_,hcs,hcap,_,hr⟩:=hok.rows r _ J
   have U:((N.drop st).take len).length=len:=by rw[Ahx,AhT];omega
   have Z:Uni esz N:=Z
   have hfl:((N.drop st).take len).flatten=(N.flatten.drop (st*esz)).take (len*esz):=by
    rw[Is (Z.drop st) len,Iu Z st]
   have hR:=(hr.drop (st*esz)).take (len*esz)
   refine⟨ad,cap,esz,_,by rw[U],(Z.drop st).take len,by rw[hfl];exact hR,fun Q=>?_⟩
   have hlp:0<len:=by rw[<-U];exact AiN.2 Q
   obtain⟨b,rfl,hA⟩:=hb a2 hlp
   have a0:∀(j:Nat) u,(((cur.toList.take (N.length*esz)).drop (st*esz)).take (len*esz))[j]? = some u->w.cell? ⟨ρ r,st*esz+j,none⟩=some u:=fun j u E=>by
    rw[AhN]at E
    split at E
    ·rw[AiI,AhN]at E
     split at E
     ·rw[cell_of_row w _ _ cur _ mk hh]
      simpa using E
     ·cases E
    ·cases E
   refine⟨b,st*esz,rfl,fun j u E=>?_,?_⟩
   rotate_left
   ·rcases hA with rfl|⟨hSb,_⟩
    ·exact .inr ⟨r,(Ahg.1 J).1,rfl,rfl⟩
    ·exact .inl hSb
   rcases hA with rfl|⟨_,Q,W⟩
   ·exact a0 j u E
   ·have hlt:j<len*esz:=by
     have:=(Ahg.1 E).1
     rw[Ahx]at this
     omega
    have:(st+len)*esz<=ver*esz:=Aif esz h1
    rw[AhU]at this
    rw[W _ (by omega)]
    exact a0 j u E
  ·cases h
 ·cases h
theorem Gd:∀ {es:L0} {l:List Nat} {cells:List Value},Ft es=some l->RepL w S ρ H es.flatten cells->l.length=es.length/\(∀c,c∈l->c<256)/\cells=l.map fun c:Nat=>Value.int .u8 (c:Int)
 | [],l,cells,h,u=>by
  simp only[Ft,Ahe]at h
  subst h
  exact⟨rfl,by simp,by simpa using u.inv_nil⟩
 | [.m (.i .u8 (.ofNat c))]::r,l,cells,h,u=>by
  simp only[Ft,Ag,Ahd,Ahe]at h
  obtain⟨J,Y,z,rfl⟩:=h
  rw[Aic]at u
  obtain⟨Z,cs,rfl,Q,u⟩:=u.inv_cons
  obtain⟨N,U,rfl⟩:=Gd z u
  have:=Cd Q
  subst this
  refine⟨by simp[N],fun d E=>?_,by simp⟩
  rcases AhF.1 E with rfl|E
  ·simpa[AiA]using J
  ·exact U d E
 | e::r,l,cells,h,u=>by
  unfold Ft at h
  split at h
  ·rename_i W;cases W
  ·rename_i c r' W
   cases W
   simp only[Ag,Ahd,Ahe]at h
   obtain⟨J,Y,z,rfl⟩:=h
   rw[Aic]at u
   obtain⟨Z,cs,rfl,Q,u⟩:=u.inv_cons
   obtain⟨N,U,rfl⟩:=Gd z u
   have:=Cd Q
   subst this
   refine⟨by simp[N],fun d E=>?_,by simp⟩
   rcases AhF.1 E with rfl|E
   ·simpa[AiA]using J
   ·exact U d E
  ·cases h
theorem LX {l:List Nat}(h:∀c,c∈l->c<256):(l.map UInt8.ofNat).map UInt8.toNat=l:=by
 induction l with
 | nil=>rfl
 | cons c l u =>
  have:=h c (by simp)
  simp only[AhL,u fun d z=>h d (by simp[z])]
  congr 1
  simp;omega
variable {x:Operand} {e:TypeId}
theorem AaU {u d:TypeId}(U:o.op=.convert u d x)(hs:P.underlying u=some (.slice e))(z:P.underlying e=some (.int .u8))(Y:P.underlying d=some .string):S5 o a P w S ρ β M vs v .b2s [a.eval x]:=fun J hv he=>by
 cases hv with|cons h t1 =>
 cases t1
 simp only[readX,Ahd,Ahe]at he
 obtain⟨es,Q,l,hl,rfl⟩:=he
 obtain⟨ad,cap,esz,cells,W,hu,hr,hc⟩:=Iy J h Q
 obtain⟨Z,h2,rfl⟩:=Gd hl hr
 have hm:=LX h2
 refine .val J (RepX.ofV (.m (.s ⟨(l.map UInt8.ofNat).toArray⟩ l (by simpa using hm)))) ?_
 cases es with
 | nil =>
  have:l=[]:=AhJ (by simpa using Z)
  subst this
  cases ad with
  | none =>
   simp only[execOp,U,W,Sem.run_bind,convert,run_underlying hs,run_underlying Y,run_underlying z,Result.andThen_ok,Conv.bytesToString,Sem.run_pure]
   rfl
  | some p =>
   have:=run_convert_bytes_back (P:=P) w u d e p cap [] hs z Y (by simp)
   simp only[execOp,U,W,Sem.run_bind]
   simp only[AhW]at this ⊢
   rw[this]
   rfl
 | cons e0 es =>
  obtain⟨b,off,rfl,E,_⟩:=hc (by simp)
  have:=run_convert_bytes_back (P:=P) w u d e ⟨b,off,none⟩ cap (l.map UInt8.ofNat) hs z Y (fun j N=>by
   rw[Bz]
   refine E j _ ?_
   simp only[Ahr]at N
   have hlt:=h2 l[j] (List.getElem_mem N)
   simp only[AhD,Ahh N,Ail,List.getElem_map]
   congr 2
   simp;omega)
  simp only[execOp,U,W,Sem.run_bind]
  rw[Ahr,Z]at this
  rw[this]
  rfl
theorem OY {t:TypeId}{n s:Nat}{lo hi mx:Option Operand}(ho:o.op=.slice t x lo hi mx)(hu:P.underlying t=some (.array n e) \/ ∃t',P.underlying t=some (.pointer t')/\P.underlying t'=some (.array n e))(hs:BD P e=some s){x0:V} 
  (Y:Ok w S ρ β M) (h:RepX w S ρ β M.H x0 (a.eval x)) (hv:All2 (RepX w S ρ β M.H) vs ((lo.toList++hi.toList++mx.toList).map a.eval)) (N:readX M (.slcA n s lo.isSome hi.isSome mx.isSome) (x0::vs)=some v) :
  Outc w S ρ β M (.r (.slcA n s lo.isSome hi.isSome mx.isSome)) v M ((execOp a.eval o).run P w):=by
 obtain⟨i,hi',rfl⟩:=AR.1 hs
 rw[EC]at hv
 have run:∀(ad:Addr) l h m,a.eval x=.pointer (some ad)->(Instr.sliceBounds false n n (lo.map a.eval) (hi.map a.eval) (mx.map a.eval)).run P w=.ok (l,h,m) w ->
   (execOp a.eval o).run P w=.ok (.value (.slice (some (if m=l then ad else ad.add (l*i.size))) (h-l) (m-l))) w:=fun ad l h m hx hb=>by
  rcases hu with hu|⟨t',hu,hu'⟩
  ·simp only[execOp,ho,hx,Instr.sliceAt,Sem.run_bind,run_underlying hu,Result.andThen_ok,Instr.sureAddr,hb,AS hi',Sem.run_pure]
  ·simp only[execOp,ho,hx,Instr.sliceAt,Sem.run_bind,run_underlying hu,Result.andThen_ok,Instr.slice,asAddr,run_underlying hu',hb,AS hi',Sem.run_pure]
 simp only[readX]at N
 split at N
 ·rename_i cs
  simp only[Ag,Ahi,AhB,AhS,Ahd,Ahe]at N
  obtain⟨⟨hlen,hn63⟩,⟨E,W⟩,hb,rfl⟩:=N
  have hI:=(RepX.toV rfl h).imm
  generalize hx:a.eval x=c at hI
  cases hI with|pt _ b off c hS hc hr =>
  obtain⟨U,k1,k2⟩:=Cj (P:=P) (isS:=false) (c:=n) (Ahk _) rfl (by simp) (by simp) (by simp) hv hb
  have Q:=run _ _ _ _ hx U
  have hU:=Ga i.size n cs (by omega)
  have hF:(Ct i.size n cs).flatten=cs:=by rw[EZ i.size n cs (by omega),<-hlen,AhI]
  have hL:(Ct i.size n cs).length=n:=Gb ..
  have hbase:RepI w S (.sl (Ct i.size n cs)) (.slice (some ⟨b,off,none⟩) n n):=by
   have:=RepI.sl (w:=w) (S:=S) (Ct i.size n cs) (some ⟨b,off,none⟩) n i.size b off (fun i' j=>c (i'*i.size+j)) (by omega) (by unfold maxLen;omega) hU (fun _=>⟨rfl,hS⟩) ⟨_,rfl⟩
    (fun i' e j x hi hj=>hc _ x (by have:=Dm hU hi hj;rwa[hF]at this)) (fun i' e j x hi hj=>hr _ x (by have:=Dm hU hi hj;rwa[hF]at this))
   rw[hL]at this
   exact this
  have hcut:=fun m (hm:W<=m) (a1:m<=n)=>NB hbase k1 k2 hm a1 hU
  have a0:(((Ct i.size n cs).drop E).take (W-E)).length=W-E:=by rw[Ahx,AhT];omega
  have lsr:∀m,m=W->(hm:W<=m)->(a1:m<=n)->RepV w S ρ M.H (.ls (((Ct i.size n cs).drop E).take (W-E))) (.slice (some (if m=E then ⟨b,off,none⟩ else (⟨b,off,none⟩:Addr).add (E*i.size))) (W-E) (m-E)):=fun m hmp hm a1=>by
   subst hmp
   have hc:=hcut m hm a1
   have:=RepV.ls (w:=w) (S:=S) (ρ:=ρ) (H:=M.H) (((Ct i.size n cs).drop E).take (m-E)) (some (if m=E then ⟨b,off,none⟩ else (⟨b,off,none⟩:Addr).add (E*i.size)))
    (by rw[a0];by_cases e:m=E <;> simpa[e]using hc)
   rw[a0]at this
   exact this
  cases hmx:mx.isSome with
  | true =>
   rw[hmx]at Q
   refine .val Y (RepX.ofV ?_) Q
   simp only[if_true,Bool.true_or]
   exact lsr W rfl (Ahk _) (by omega)
  | false =>
   rw[hmx]at Q
   refine .val Y (RepX.ofV ?_) Q
   simp only[AiG,if_false,Bool.false_or]
   cases hbq:Nat.beq W n with
   | true=>exact lsr n (Ahy hbq).symm (by omega) (Ahk _)
   | false =>
    refine .m ?_
    have:=hcut n (by omega) (Ahk _)
    by_cases e:n=E <;> simpa[e]using this
 ·rename_i r ver
  simp only[Ahd,AT]at N
  obtain⟨row,J,N⟩:=N
  split at N
  ·rename_i ty esz es Z fz
   simp only[Ag,Ahi,AhB,Ahd,Ahe]at N
   obtain⟨⟨⟨hez,hel⟩,hvn⟩,⟨E,W⟩,hb,rfl⟩:=N
   have hV:=RepX.toV rfl h
   generalize hx:a.eval x=c at hV
   cases hV with|pt _ _ _ _ ty' esz' es' base' fz' p u h2 hix hbb =>
   rw[J]at u
   simp only[Ahe,Row.cs.injEq]at u
   obtain⟨rfl,rfl,rfl,rfl,rfl⟩:=u
   obtain⟨U,k1,k2⟩:=Cj (P:=P) (isS:=false) (c:=n) (Ahk _) rfl (by simp) (by simp) (by simp) hv hb
   have Q:=run _ _ _ _ hx U
   obtain⟨_,_,_,_,_,cur,cap,mk,hh,_,hcs,hcap,hcm,_⟩:=Y.rows r _ J
   refine .val Y (RepX.ofV ?_) Q
   rw[hez]
   refine .sl r ver esz E (W-E) _ ty es Z fz _ _ J (by omega) h2 ?_ ?_ ?_ ⟨_,rfl⟩ ?_ ?_
   ·split <;> omega
   ·split <;> omega
   ·intro z
    cases hmx:mx.isSome with
    | true=>simp
    | false =>
     rw[hmx]at z
     simp only[Bool.false_or,AhB]at z
     simp
     omega
   ·intro hbv hpos
    obtain⟨b,hp,hA⟩:=hbb hbv
    subst hp
    have hne:¬(if mx.isSome=true then W else n)=E:=by split <;> omega
    rw[Ahj hne]
    exact⟨b,by simp[Bz],hA⟩
   ·intro hve hst z hle
    exfalso
    have hbq:Nat.beq W n=true:=by rw[AhB];omega
    simp[hbq]at z
  ·cases N
 ·rename_i r ver off
  simp only[Ahd,AT]at N
  obtain⟨row,J,N⟩:=N
  split at N
  ·rename_i ty esz es Z fz
   simp only[Ag,Ahi,AhB,AhS,Ahd,Ahe]at N
   obtain⟨⟨⟨⟨hez,he1⟩,hel⟩,hvn⟩,⟨E,W⟩,hb,rfl⟩:=N
   have hV:=RepX.toV rfl h
   generalize hx:a.eval x=c at hV
   cases hV with|pt _ _ _ _ ty' esz' es' base' fz' p u h2 hix hbb =>
   rw[J]at u
   simp only[Ahe,Row.cs.injEq]at u
   obtain⟨rfl,rfl,rfl,rfl,rfl⟩:=u
   obtain⟨U,k1,k2⟩:=Cj (P:=P) (isS:=false) (c:=n) (Ahk _) rfl (by simp) (by simp) (by simp) hv hb
   have Q:=run _ _ _ _ hx U
   obtain⟨_,_,_,_,_,cur,cap,mk,hh,_,hcs,hcap,hcm,_⟩:=Y.rows r _ J
   refine .val Y (RepX.ofV ?_) Q
   rw[hez]
   refine .sl r ver esz (off+1+E) (W-E) _ ty es Z fz _ _ J (by omega) h2 ?_ ?_ ?_ ⟨_,rfl⟩ ?_ ?_
   ·split <;> omega
   ·have h1:es.length<=es.length*esz:=Nat.le_mul_of_pos_right _ (by omega)
    have h3:n<=maxLen:=by omega
    split <;> omega
   ·intro z
    cases hmx:mx.isSome with
    | true=>simp
    | false =>
     rw[hmx]at z
     simp only[Bool.false_or,AhB]at z
     simp
     omega
   ·intro hbv hpos
    obtain⟨b,hp,hA⟩:=hbb hbv
    subst hp
    have hne:¬(if mx.isSome=true then W else n)=E:=by split <;> omega
    rw[Ahj hne]
    refine⟨b,?_,hA⟩
    have e1:esz=1:=by omega
    have e2:i.size=1:=by omega
    rw[Bz,e1]
    exact AiE (fun q=>some (Addr.mk b q none)) (by omega)
   ·intro hve hst z hle
    omega
  ·cases N
 ·cases N
end
end Go.Mx
namespace Go.Mx
section
variable {P:Program} {w:World} {S:Nat->Prop} {ρ β:Nat->Nat} {M:Mem} {H:Hp}
def InN (R:Nat->Prop):Nat->V->Prop
 | 0,_=>True
 | n+1,v=>match v with
  | .sl r _ _ _ _ _=>R r
  | .pt r _ _ _=>R r
  | .mp r=>R r
  | .fn _ cap=>∀x,x∈cap->InN R n x
  | .ag cs=>∀x,x∈cs->InN R n x
  | .tu cs=>∀x,x∈cs->InN R n x
  | _=>True
def Sp (R:Nat->Prop)(H:Hp):Prop:=∀r row,R r->H[r]? = some row->match row with
 | .cs _ _ es _ _=>∀e,e∈es -> ∀x,x∈e -> ∀n,InN R n x
 | .mp es _=>∀p,p∈es -> ∀n,InN R n p.2
 | .lp _ _ _ _ _ _=>True
def Sof (S:Nat->Prop)(ρ:Nat->Nat)(H:Hp)(R:Nat->Prop):Nat->Prop:=fun b=>S b \/ ∃r,R r/\r<H.length/\b=ρ r
theorem optMap_get {α β:Type}{f:α->Option β}:∀ {l:List α} {m:List β},Ah f l=some m->m.length=l.length /\ ∀(j:Nat) y,m[j]? = some y -> ∃x,l[j]? = some x/\f x=some y
 | [],m,h=>by simp[Ah]at h;subst h;simp
 | x::l,m,h=>by
  simp only[Ah,Ahd,Ahe]at h
  obtain⟨y,E,Q,hl,rfl⟩:=h
  obtain⟨N,J⟩:=optMap_get hl
  refine⟨by simp[N],fun j z u=>?_⟩
  cases j with
  | zero=>simp at u;subst u;exact⟨x,rfl,E⟩
  | succ j=>simpa using J j z (by simpa using u)
theorem FB {α β:Type}{f:α->Option β}:∀ {es:List (List α)} {l:List (List β)},Ah (fun e=>Ah f e) es=some l->Ah f es.flatten=some l.flatten
 | [],l,h=>by simp[Ah]at h;subst h;rfl
 | e::es,l,h=>by
  simp only[Ah,Ahd,Ahe]at h
  obtain⟨y,U,Z,hl,rfl⟩:=h
  have W:=FB hl
  have app:∀(a:List α) (b:List α) (y z:List β),Ah f a=some y->Ah f b=some z->Ah f (a++b)=some (y++z):=by
   intro a
   induction a with
   | nil=>intro b y z u N;simp[Ah]at u;subst u;simpa using N
   | cons c a J =>
    intro b y z u N
    simp only[Ah,Ahd,Ahe]at u
    obtain⟨c',Q,Y,E,rfl⟩:=u
    simp[Ah,Q,J b Y z E N]
  exact app _ _ _ _ U W
variable {α:Type}
theorem Jy {β:Type}{f:α->Option β}{n:Nat}{es:List (List α)}{l:List (List β)}(h:Ah (fun e=>Ah f e) es=some l)(z:Uni n es):Uni n l:=fun e E=>by
 obtain⟨j,u,rfl⟩:=List.getElem_of_mem E
 obtain⟨x,J,N⟩:=(optMap_get h).2 j _ (Ahh u)
 rw[(optMap_get N).1]
 exact z.get J
theorem FN {R:Nat->Prop}(a1:Ok w S ρ β M)(hcl:Sp R M.H):∀(n:Nat) (v:V) (c:Value) (i:I),view n M.H v=some i->InN R n v->RepV w S ρ M.H v c->RepI w (Sof S ρ M.H R) i c
 | 0,v,c,i,h,_,_=>by simp[view]at h
 | n+1,v,c,i,h,hin,hv=>by
  have toI:∀ {x:I} {c:Value},RepI w S x c->RepI w (Sof S ρ M.H R) x c:=fun h=>h.mono (fun _ _=>rfl) (fun _ h=>.inl h)
  have list:∀ {xs:List V} {l:List I} {cs:List Value},Ah (view n M.H) xs=some l->(∀x,x∈xs->InN R n x)->RepL w S ρ M.H xs cs->LI w (Sof S ρ M.H R) l cs:=fun {xs l cs} Q h2 h3=>by
   obtain⟨g1,g2⟩:=optMap_get Q
   refine⟨by rw[Ahr,g1];exact h3.1,fun j y E=>?_⟩
   rw[AhD]at E
   obtain⟨z,hz,rfl⟩:=AhM.1 E
   obtain⟨x,hx,hf⟩:=g2 j z hz
   obtain⟨c,hc,hr⟩:=h3.2 j x hx
   exact⟨c,hc,.m (FN a1 hcl n x c z hf (h2 x (Ahm hx)) hr)⟩
  unfold view at h
  cases v with
  | m x=>simp only[Ahe]at h;subst h;exact toI hv.imm
  | un=>cases h
  | fa d off=>cases h
  | tu vs=>cases h
  | yl r=>cases h
  | ls es=>simp only[Ahe]at h;subst h;exact toI (Jz hv)
  | sl r ver esz st len lim =>
   simp only[Ahd,Ahe]at h
   obtain⟨es,hes,l,hl,rfl⟩:=h
   obtain⟨ad,cap,esz1,cells,rfl,hu1,hr,hc⟩:=Iy (β:=β) a1 (RepX.ofV hv) hes
   have hR:R r:=hin
   have hrl:∃row,M.H[r]? = some row:=by
    cases hv with|sl _ _ _ _ _ _ ty' es' base' fz' _ _ u Q h2 h3 h4 h5 hn hb ha=>exact⟨_,u⟩
   obtain⟨row,J⟩:=hrl
   have hcap:es.length<=cap/\cap<=maxLen:=by
    cases hv with|sl _ _ _ _ _ _ ty' es' base' fz' _ _ u Q h2 h3 h4 h5 hn hb ha=>exact⟨h3,h4⟩
   have hmem:∀x,x∈es.flatten->InN R n x:=fun x hx=>by
    simp only[elems,Ahd,AT]at hes
    obtain⟨row',u,a0⟩:=hes
    split at a0
    ·simp only[Ag,Ahe]at a0
     obtain⟨_,rfl⟩:=a0
     obtain⟨e,he,hxe⟩:=List.mem_flatten.1 hx
     exact hcl r _ hR u e (List.mem_of_mem_drop (Ain he)) x hxe n
    ·cases a0
   have hli:=list (FB hl) hmem hr
   have hul:=Jy hl hu1
   have hll:=(optMap_get hl).1
   by_cases hne:es=[]
   ·subst hne
    have:l=[]:=AhJ (by simpa using hll)
    subst this
    exact .sl [] ad cap 0 0 0 (fun _ _=>undef) hcap.1 hcap.2 (by simp) (by simp) (by cases hv with|sl _ _ _ _ _ _ ty' es' base' fz' _ _ u Q h2 h3 h4 h5 hn hb ha=>exact hn) (by simp) (by simp)
   ·obtain⟨b,off,rfl,U,hb⟩:=hc hne
    obtain⟨_,cf,W,Y⟩:=RepL.toI hli
    rw[<-hll]
    refine .sl l _ cap esz1 b off (fun i j=>cf (i*esz1+j)) (by omega) hcap.2 hul (fun _=>⟨rfl,?_⟩) ⟨_,rfl⟩ (fun i e j x hi E=>?_) (fun i e j x hi E=>Y _ _ (Dm hul hi E))
    ·rcases hb with hb|⟨r',hr',rfl,he⟩
     ·exact .inl hb
     ·simp only[Fp,List.cons.injEq,and_true]at he
      subst he
      exact .inr ⟨_,hR,hr',rfl⟩
    ·exact U _ _ (W _ _ (Dm hul hi E))
  | pt r ver ix off =>
   simp only[Ahd,AT]at h
   obtain⟨row,J,h⟩:=h
   split at h
   ·rename_i ty esz es0 base fz
    simp only[Ahd,Ahe]at h
    obtain⟨cs,hcs,l,hl,rfl⟩:=h
    have hcs':readA M (esz-off) (.pt r ver ix off)=some cs:=hcs
    obtain⟨b,o,cells,rfl,_,hr,U,hb⟩:=FX a1 (RepX.ofV (β:=β) hv) hcs'
    have hR:R r:=hin
    have hmem:∀x,x∈cs->InN R n x:=fun x hx=>by
     simp only[readA,AT,J,Ahp,Ag,Ahi]at hcs
     obtain⟨_,_,hU,_⟩:=a1.rows r _ J
     obtain⟨he,_⟩:=Pj hU hcs.2
     rw[he]at hx
     obtain⟨e,he,hxe⟩:=List.mem_flatten.1 (List.mem_of_mem_drop (Ain hx))
     exact hcl r _ hR J e he x hxe n
    obtain⟨_,cf,W,Y⟩:=RepL.toI (list hl hmem hr)
    refine .pt l b o cf ?_ (fun j x E=>U _ _ (W _ _ E)) (fun j x E=>Y _ _ E)
    rcases hb rfl with hb|⟨r',hr',rfl,he⟩
    ·exact .inl hb
    ·simp only[Fp,List.cons.injEq,and_true]at he
     subst he
     exact .inr ⟨_,hR,hr',rfl⟩
   ·cases h
  | mp r =>
   simp only[Ahd,AT]at h
   obtain⟨row,J,h⟩:=h
   split at h
   ·rename_i es0 fz
    simp only[Ahd,Ahe]at h
    obtain⟨l,hl,rfl⟩:=h
    have hR:R r:=hin
    cases hv with|mp _ es' fz' u =>
    obtain⟨_,_,ents,clock,hh,⟨hlen,_⟩,hE⟩:=a1.rows r _ J
    obtain⟨g1,g2⟩:=optMap_get hl
    have Z:∀(j:Nat) k x,l[j]? = some [k,x] -> ∃N,ents[j]? = some N/\RepI w (Sof S ρ M.H R) k N.key/\RepI w (Sof S ρ M.H R) x N.val:=fun j k x E=>by
     obtain⟨p,hp,hf⟩:=g2 j _ E
     obtain⟨k0,x0⟩:=p
     simp only[Ahd,Ahe,List.cons.injEq,and_true]at hf
     obtain⟨y,hy,rfl,rfl⟩:=hf
     obtain⟨N,Q,h2,h3⟩:=hE j _ _ hp
     exact⟨N,Q,toI h2,FN a1 hcl n x0 _ _ hy (hcl r _ hR J (k0,x0) (Ahm hp) n) h3⟩
    refine .mp l (ρ r) ents clock (fun j=>((ents[j]?).map (·.key)).getD undef) (fun j=>((ents[j]?).map (·.val)).getD undef) (.inr ⟨r,hR,(Ahg.1 J).1,rfl⟩) hh (by omega) (fun j e E=>?_) (fun j k x E=>?_) (fun j k x E=>?_) (fun j k x E=>?_) (fun j k x E=>?_)
    ·obtain⟨p,_,hf⟩:=g2 j _ E
     simp only[Ahd,Ahe]at hf
     obtain⟨y,_,rfl⟩:=hf
     exact⟨_,_,rfl⟩
    ·obtain⟨N,Q,_⟩:=Z j k x E;simp[Q]
    ·obtain⟨N,Q,_⟩:=Z j k x E;simp[Q]
    ·obtain⟨N,Q,h2,_⟩:=Z j k x E;simpa[Q]using h2
    ·obtain⟨N,Q,_,h2⟩:=Z j k x E;simpa[Q]using h2
   ·cases h
  | fn f cap =>
   simp only[Ahd,Ahe]at h
   obtain⟨l,hl,rfl⟩:=h
   obtain⟨hny,cs,rfl,hr⟩:=hv.fnL
   obtain⟨Q,cf,W,Y⟩:=RepL.toI (list hl hin hr)
   exact .fn f hny l cs (by simpa using Q) cf (fun j x E=>by simpa using W j x E) Y
  | ag xs =>
   simp only[Ahd,Ahe]at h
   obtain⟨l,hl,rfl⟩:=h
   obtain⟨cs,rfl,hr⟩:=hv.agL
   obtain⟨Q,cf,W,Y⟩:=RepL.toI (list hl hin hr)
   exact .ag l cs (by simpa using Q) cf (fun j x E=>by simpa using W j x E) Y
def Kx:Row->Prop
 | .cs _ _ es _ _=>∀e,e∈es -> ∀x,x∈e->isM x=true
 | .mp es _=>∀p,p∈es->isM p.2=true
 | .lp _ _ _ _ _ _=>True
variable {row row':Row}
theorem Fr (h:AV row=some row'):Kx row/\Kx row':=by
 cases row with
 | cs ty esz es z J =>
  simp only[AV,Ag,Ahe]at h
  obtain⟨u,rfl⟩:=h
  have:∀e,e∈es -> ∀x,x∈e->isM x=true:=fun e N x U=>Ahu.1 (Ahu.1 u e N) x U
  exact⟨this,this⟩
 | mp es J =>
  simp only[AV,Ag,Ahe]at h
  obtain⟨u,rfl⟩:=h
  have:∀p,p∈es->isM p.2=true:=fun p Q=>Ahu.1 u p Q
  exact⟨this,this⟩
 | lp st W E ps Z Y=>simp[AV]at h
theorem SX {l u:List α}{i:Nat}{x:α}(h:AO l i x=some u):i<l.length/\u=l.set i x:=By h
theorem RF (U:Ok w S ρ β M){r:Nat}(z:M.H[r]? = some row)(h:AV row=some row'):
  Ok w (fun b=>S b\/b=ρ r) ρ β { M with H:=M.H.set r row' }/\Stp w S ρ β M w (fun b=>S b\/b=ρ r) ρ (M.H.set r row'):=by
 have W:(fun k=>if k=r then ρ r else ρ k)=ρ:=by
  funext k
  by_cases c:k=r
  ·rw[Ahl c,c]
  ·rw[Ahj c]
 have N:=Ok.setRow (w':=w) (S':=fun b=>S b\/b=ρ r) (g:=ρ r) (row':=row') U z ⟨⟨rfl,rfl,rfl,Ahk _,fun _ _ _=>rfl⟩,fun _=>Ahk _⟩ (.inl rfl) (fun b h=>.inl h) (fun b h=>h) (fun _ _=>rfl)
  (fun ty esz es J fz e=>by
   subst e
   simp only[AV,Ag,Ahe]at h
   obtain⟨_,rfl⟩:=h
   exact⟨es,J,true,rfl,Ahk _,Ahk _,fun b ver _ _ hA=>hA.same (fun _ _=>rfl) (fun _ h=>.inl h) rfl,fun _=>⟨rfl,fun cur mk hh=>⟨cur,mk,hh,rfl⟩⟩⟩)
  (fun es fz e=>by
   subst e
   simp only[AV,Ag,Ahe]at h
   obtain⟨_,rfl⟩:=h
   exact⟨rfl,es,true,rfl⟩)
  (fun u=>by
   have hR:=U.rows r row z
   rw[W]at u ⊢
   cases row with
   | cs ty esz es J fz =>
    simp only[AV,Ag,Ahe]at h
    obtain⟨_,rfl⟩:=h
    obtain⟨h1,h2,h3,h4,h5,cur,cap,mk,Y,h7,Z,h9,a0,h11⟩:=hR
    exact⟨h1,h2,h3,fun _=>.inr rfl,fun e=>(by cases e),cur,cap,mk,Y,fun e=>(by cases e),Z,h9,a0,h11.mono u⟩
   | mp es fz =>
    simp only[AV,Ag,Ahe]at h
    obtain⟨_,rfl⟩:=h
    obtain⟨h4,h5,ents,clock,Y,h7,Z⟩:=hR
    refine⟨fun _=>.inr rfl,fun e=>(by cases e),ents,clock,Y,h7,fun j k x hj=>?_⟩
    obtain⟨ent,Q,hk,hx⟩:=Z j k x hj
    exact⟨ent,Q,hk.mono u.hw u.hS,hx.mono u⟩
   | lp st pd E ps ca cb=>simp[AV]at h)
  (fun st pd E ps ca cb e=>by subst e;simp[AV]at h)
 rw[W]at N
 exact N
theorem Stp.transW {S' z:Nat->Prop}{H' u:Hp}{J:Nat->Nat}{B':LE}(h:Stp w S ρ β M w S' ρ H')(k:Stp w S' ρ J ⟨B',H'⟩ w z ρ u)(hl:H'.length=M.H.length)(U:∀b,z b->S' b \/ ∃r,r<H'.length/\b=ρ r)(Q:u.length=H'.length):Stp w S ρ β M w z ρ u where
 vals v c hv:=k.vals v c (h.vals v c hv)
 stab b E:=k.stab b (h.stab b E)
 heap _ _:=rfl
 keep _ _ _ _:=rfl
 news b E:=by
  rcases U b E with E|⟨r,N,e⟩
  ·exact h.news b E
  ·exact .inr (.inr ⟨r,by omega,e⟩)
 rown r N:=.inl ⟨r,by omega,rfl⟩
 size:=Ahk _
 os:=rfl
 tape:=rfl
 output:=rfl
 drawn:=fun _=>Ahk _
variable {R:Nat->Prop}
theorem AdF (u:∀r,¬R r):Sof S ρ H R=S:=by
 funext b
 apply propext
 constructor
 ·rintro (h|⟨r,h,_⟩)
  ·exact h
  ·exact absurd h (u r)
 ·exact .inl
theorem GJ:∀(rs:List Nat) {S:Nat->Prop} {M:Mem} {H':Hp},Ok w S ρ β M->AX rs M.H=some H' ->
  Ok w (Sof S ρ M.H (· ∈ rs)) ρ β { M with H:=H' }/\Stp w S ρ β M w (Sof S ρ M.H (· ∈ rs)) ρ H'/\H'.length=M.H.length /\ ∀r,r∈rs -> ∃row,M.H[r]? = some row/\Kx row
 | [],S,M,H',hok,h=>by
  simp only[AX,Ahe]at h
  subst h
  rw[AdF (by simp)]
  exact⟨hok,Stp.refl _ _ _ _ _,rfl,by simp⟩
 | r::rs,S,M,H',hok,h=>by
  simp only[AX,Ahd,AT]at h
  obtain⟨row,E,row',u,H1,hH1,h⟩:=h
  obtain⟨hrl,rfl⟩:=SX hH1
  obtain⟨a0,Z⟩:=RF hok E u
  obtain⟨J,z,N,hf2⟩:=GJ rs a0 h
  have a1:Sof (fun b=>S b\/b=ρ r) ρ (M.H.set r row') (· ∈ rs)=Sof S ρ M.H (· ∈ r::rs):=by
   funext b
   apply propext
   simp only[Sof,Aib,AhF]
   constructor
   ·rintro ((h|h)|⟨k,U,Q,W⟩)
    ·exact .inl h
    ·exact .inr ⟨r,.inl rfl,hrl,h⟩
    ·exact .inr ⟨k,.inr U,Q,W⟩
   ·rintro (h|⟨k,rfl|U,Q,W⟩)
    ·exact .inl (.inl h)
    ·exact .inl (.inr W)
    ·exact .inr ⟨k,U,Q,W⟩
  simp only at J z N
  rw[a1]at J z
  simp only[Aib]at N
  refine⟨J,Stp.transW Z z (by simp) (fun b hb=>?_) (by simpa using N),N,fun k hk=>?_⟩
  ·rw[<-a1]at hb
   rcases hb with hb|⟨k,_,Q,W⟩
   ·exact .inl hb
   ·exact .inr ⟨k,Q,W⟩
  ·rcases AhF.1 hk with rfl|hk
   ·exact⟨row,E,(Fr u).1⟩
   ·obtain⟨Y,U,Q⟩:=hf2 k hk
    by_cases c:k=r
    ·subst c
     exact⟨row,E,(Fr u).1⟩
    ·simp only[Aij (Air c)]at U
     exact⟨Y,U,Q⟩
theorem Mi {x:V}(h:isM x=true)(n:Nat):InN R n x:=by
 cases n with
 | zero=>exact AhY
 | succ n=>cases x <;> first|exact AhY|(simp[isM]at h)
theorem Ju (h:∀r,R r -> ∃row,H[r]? = some row/\Kx row):Sp R H:=fun r row U u=>by
 obtain⟨row',z,J⟩:=h r U
 rw[u]at z
 cases z
 cases row with
 | cs ty esz es N Q=>exact fun e W x Z n=>Mi (J e W x Z) n
 | mp es Q=>exact fun p Y n=>Mi (J p Y) n
 | lp st pd E ps ca cb=>exact AhY
theorem In:∀(n:Nat) (v:V),InN (fun _=>True) n v
 | 0,_=>AhY
 | n+1,v=>by cases v <;> first|exact AhY|exact fun x _=>In n x
theorem Jt:Sp (fun _=>True) H:=fun r row _ _=>by
 cases row with
 | cs ty esz es u z=>exact fun e _ x _ n=>In n x
 | mp es z=>exact fun p _ n=>In n p.2
 | lp st N E ps J Q=>exact AhY
theorem Gu {x:V}(h:BO x=true){rs:List Nat}(E:∀r,r∈Du x->r∈rs)(n:Nat):InN (· ∈ rs) n x:=by
 have one:∀(x:V) (n:Nat),CV x=true->(∀r,r∈Fp x->r∈rs)->InN (· ∈ rs) n x:=fun x n h E=>by
  cases n with
  | zero=>exact AhY
  | succ n=>cases x <;> first|exact AhY|(simp[CV]at h;done)|exact E _ (by simp[Fp])
 cases n with
 | zero=>exact AhY
 | succ n =>
  cases x with
  | fn f cap=>exact fun y z=>one y n (Ahu.1 h y z) fun r u=>E r (List.mem_flatMap.2 ⟨y,z,u⟩)
  | ag cs=>exact fun y z=>one y n (Ahu.1 h y z) fun r u=>E r (List.mem_flatMap.2 ⟨y,z,u⟩)
  | _=>exact one _ (n+1) h E
end
end Go.Mx
namespace Go.Mx
section
variable {P:Program} {w:World} {S:Nat->Prop} {ρ β:Nat->Nat} {M M':Mem} {H:Hp} {o:Oper} {a:Act} {vs:List V} {v:V} {call:Bt}
theorem ER (w:World)(t:TypeId)(x:Value):(newVar t x).run P w=.ok ⟨w.heap.size,0,none⟩ (w.alloc (.cells x.cells t)):=rfl
variable {t:TypeId} {d:Nat} {cs:List V} {op:OL}
theorem TX {x:Value}(W:dof (.l op)=some d)(u:Ok w S ρ β M)(Q:RepL w S ρ M.H cs x.cells.toList)(E:(execOp a.eval o).run P w=.ok (.value (.pointer (some ⟨w.heap.size,0,none⟩))) (w.alloc (.cells x.cells t))):
  Outc w S ρ β M (.l op) (.fa d 0) { M with B:=Eo M.B d cs } ((execOp a.eval o).run P w):=by
 have U:¬S w.heap.size:=fun h=>by have:=u.lt _ h;omega
 obtain⟨z,N⟩:=Ok.newBox (w':=w.alloc (.cells x.cells t)) (S':=S) (d:=d) (g:=w.heap.size) u (Gw.alloc w _ none) (fun _ h=>h) (fun b h=>.inl h) (fun b h=>by have:=u.lt b h;simp;omega)
  (Ahk _) U (heap_alloc_new w _) Q
 refine⟨_,.pointer (some ⟨w.heap.size,0,none⟩),_,_,_,_,E,.inl rfl,z,N,?_,fun k J=>?_,fun k J=>?_⟩
 ·simp[RepX]
 ·rw[W]at J
  rw[Ahj (fun e=>J (by rw[e]))]
 ·by_cases c:k=d
  ·exact .inr (by rw[Ahl c];exact Ahk _)
  ·refine .inl ⟨k,?_,Ahj c⟩
   simp only[AN,Ahj c]at J
   exact J
variable {zs:List V}
theorem AaW (Z:o.op=.alloc t)(W:Dv P t=some zs)(J:Ok w S ρ β M)(u:An call M (.alp d zs) vs=some (v,M')):
  Outc w S ρ β M (.l (.alp d zs)) v M' ((execOp a.eval o).run P w):=by
 obtain⟨i,z,Q,N,Y,U,E⟩:=CE W
 cases vs with
 | cons x r=>simp[An]at u
 | nil =>
  simp only[An,Ahe,Ahf]at u
  obtain⟨rfl,rfl⟩:=u
  exact TX (t:=t) rfl J (E w S ρ M.H) (by simp[execOp,Z,Instr.alloc,Br Q N,ER])
abbrev S6 (o:Oper)(a:Act)(P:Program)(w:World)(S:Nat->Prop)(ρ β:Nat->Nat)(M:Mem)(vs:List V)(v:V)(M':Mem)(call:Bt)(q:OL)(es:List Value):Prop:=Ok w S ρ β M->All2 (RepX w S ρ β M.H) vs es->An call M q vs=some (v,M')->Outc w S ρ β M (.l q) v M' ((execOp a.eval o).run P w)
variable {x:Operand}
theorem AaR {s:Nat}(Q:o.op=.box t x):S6 o a P w S ρ β M vs v M' call (.bxp d s) [a.eval x]:=fun z N E=>by
 cases N with|cons h J =>
 cases J
 simp only[An,Ahd,Ag,Ahe,Ahf]at E
 obtain⟨cs,u,_,rfl,rfl⟩:=E
 exact TX (t:=t) rfl z (RepX.cells h u) (by simp[execOp,Q,Instr.box,ER])
variable {ty esz cap:Nat} {cur:Array Value} {c:Value} {w':World}
theorem Xb {es:L0}{val:V}{mk:Nat×Nat}(u:Ok w S ρ β M)(J:0<esz)(hu:Uni esz es)(hg:Gw w w' none)(hsz:w'.heap.size=w.heap.size+1)(z:w'.heap[w.heap.size]? = some (.cells cur ty mk)) 
  (U:es.length<=cap) (Z:cap<=maxLen) (a1:cur.size=cap*esz) (hr:RepL w S ρ M.H es.flatten (cur.toList.take (es.length*esz)))
  (Y:(execOp a.eval o).run P w=.ok (.value c) w')
  (N:∀W,W M.H.length=w.heap.size->RepV w' S W (M.H++[.cs ty esz es 0 false]) val c) (Q:Win cur.size mk) :
  Outc w S ρ β M (.l op) val { M with H:=M.H++[.cs ty esz es 0 false] } ((execOp a.eval o).run P w):=by
 have hS:¬S w.heap.size:=fun h=>by have:=u.lt _ h;omega
 obtain⟨E,a2⟩:=Ok.newRow (w':=w') (S':=S) (g:=w.heap.size) (row:=.cs ty esz es 0 false) u hg (fun _ h=>h) (fun b h=>.inl h) (fun b h=>by have:=u.lt b h;omega) (Ahk _)
  (fun a0=>⟨Aho _,J,hu,fun e=>(by cases e),fun _=>by simpa using hS,cur,cap,mk,by simpa using z,fun _=>Q,a1,U,Z,hr.mono a0⟩)
 exact⟨_,c,_,_,_,_,Y,.inl rfl,E,a2,RepX.ofV (N _ (by simp)),fun _ _=>rfl,fun k hk=>.inl ⟨k,hk,rfl⟩⟩
theorem NG {es:L0}{val:V}(Z:Ok w S ρ β M)(Q:0<esz)(hu:Uni esz es)(hg:Gw w w' none)(Y:w'.heap.size=w.heap.size+1)(z:w'.heap[w.heap.size]? = some (.cells cur ty (0,0))) 
  (E:es.length<=cap) (U:cap<=maxLen) (W:cur.size=cap*esz) (hr:RepL w S ρ M.H es.flatten (cur.toList.take (es.length*esz)))
  (N:(execOp a.eval o).run P w=.ok (.value c) w')
  (u:∀J,J M.H.length=w.heap.size->RepV w' S J (M.H++[.cs ty esz es 0 false]) val c) :
  Outc w S ρ β M (.l op) val { M with H:=M.H++[.cs ty esz es 0 false] } ((execOp a.eval o).run P w) :=
 Xb Z Q hu hg Y z E U W hr N u (.inl rfl)
theorem Kl (H:Hp)(row:Row):(H++[row])[H.length]? = some row:=by simp
variable {n:Nat}
theorem Uk {x:Value}(E:Ok w S ρ β M)(N:RepL w S ρ M.H cs x.cells.toList)(Y:cs.length=n*esz)(Q:1<=esz)(h3:1<=n)(h4:n<=9223372036854775807) 
  (u:(execOp a.eval o).run P w=.ok (.value (.pointer (some ⟨w.heap.size,0,none⟩))) (w.alloc (.cells x.cells t))) :
  Outc w S ρ β M (.l op) (.pt M.H.length n 0 0) { M with H:=M.H++[.cs t esz (Ct esz n cs) 0 false] } ((execOp a.eval o).run P w):=by
 have Z:=Gb esz n cs
 have z:=N.1
 have W:(Ct esz n cs).flatten=cs:=by rw[EZ esz n cs (by omega),<-Y,AhI]
 refine NG (cap:=n) E Q (Ga esz n cs (by omega)) (Gw.alloc w _ none) (by simp) (heap_alloc_new w _) (by omega) (by unfold maxLen;omega) (by simp at z;omega)
  (by rw[W,Z,Ahz (by omega)];exact N) u (fun U J=>?_)
 refine .pt M.H.length n 0 0 t esz (Ct esz n cs) 0 false _ (Kl _ _) (by omega) (by omega) (fun _=>⟨w.heap.size,by simp,.inl J.symm⟩)
theorem AaV (ho:o.op=.alloc t)(hz:Dv P t=some zs)(J:Ok w S ρ β M)(u:An call M (.als t esz n zs) vs=some (v,M')):
  Outc w S ρ β M (.l (.als t esz n zs)) v M' ((execOp a.eval o).run P w):=by
 obtain⟨i,z,W,N,hz2,Z,E⟩:=CE hz
 cases vs with
 | cons x r=>simp[An]at u
 | nil =>
  simp only[An,Ag,Ahi,AhB,AhS,Ahe,Ahf]at u
  obtain⟨⟨⟨⟨h1,Q⟩,Y⟩,U⟩,rfl,rfl⟩:=u
  exact Uk J (E w S ρ M.H) h1 Q Y U (by simp[execOp,ho,Instr.alloc,Br W N,ER])
theorem AaQ (W:o.op=.box t x):S6 o a P w S ρ β M vs v M' call (.bxs t esz n) [a.eval x]:=fun z U E=>by
 cases U with|cons h Q =>
 cases Q
 simp only[An,Ahd,Ag,Ahi,AhB,AhS,Ahe,Ahf]at E
 obtain⟨cs,u,⟨⟨⟨Y,J⟩,Z⟩,N⟩,rfl,rfl⟩:=E
 exact Uk z (RepX.cells h u) Y J Z N (by simp[execOp,W,Instr.box,ER])
variable {e:TypeId}
theorem AaD {k:TypeId}{r:Option Operand}(W:o.op=.makeMap t r)(hu:P.underlying t=some (.map k e)):S6 o a P w S ρ β M vs v M' call .mkm (r.toList.map a.eval):=fun E U z=>by
 have Y:¬S w.heap.size:=fun h=>by have:=E.lt _ h;omega
 have u:(execOp a.eval o).run P w=.ok (.value (.map (some w.heap.size))) (w.alloc (.map #[] 0))->Outc w S ρ β M (.l .mkm) (.mp M.H.length) { M with H:=M.H++[.mp [] false] } ((execOp a.eval o).run P w):=fun N=>by
  obtain⟨J,Q⟩:=Ok.newRow (w':=w.alloc (.map #[] 0)) (S':=S) (g:=w.heap.size) (row:=.mp [] false) E (Gw.alloc w _ none) (fun _ h=>h) (fun b h=>.inl h) (fun b h=>by have:=E.lt b h;simp;omega) (Ahk _)
   (fun a0=>⟨fun e=>(by cases e),fun _=>by simpa using Y,#[],0,by simpa using heap_alloc_new w _,⟨rfl,fun _ h=>(by simp at h),by simp⟩,by simp⟩)
  refine⟨_,_,_,_,_,_,N,.inl rfl,J,Q,RepX.ofV ?_,fun _ _=>rfl,fun k Z=>.inl ⟨k,Z,rfl⟩⟩
  have:=RepV.mp (w:=w.alloc (.map #[] 0)) (S:=S) (ρ:=fun r=>if r=M.H.length then w.heap.size else ρ r) (H:=M.H++[.mp [] false]) M.H.length [] false (Kl _ _)
  simpa using this
 cases r with
 | none =>
  cases U
  simp only[An,Ahe,Ahf]at z
  obtain⟨rfl,rfl⟩:=z
  exact u (by simp[execOp,W,Instr.makeMap])
 | some x =>
  obtain⟨c,hc,h⟩:∃c,vs=[c]/\RepX w S ρ β M.H c (a.eval x):=by
   cases U with|cons h t=>cases t;exact⟨_,rfl,h⟩
  subst hc
  simp only[An]at z
  split at z
  ·simp only[Ahe,Ahf]at z
   obtain⟨rfl,rfl⟩:=z
   have hx:=Cd (RepX.toV rfl h)
   exact u (by simp[execOp,W,Instr.makeMap,run_underlying hu,hx,asInt,asIntOf])
  ·cases z
theorem AaC {bytes:Nat}{y:Operand}(ho:o.op=.makeSlice t x y)(hu:P.underlying t=some (.slice e))(hz:Dv P e=some zs)(hs:BD P e=some esz)(hb:JM P e=some bytes):S6 o a P w S ρ β M vs v M' call (.mks e esz zs bytes) [a.eval x,a.eval y]:=fun a4 hv Y=>by
 cases hv with|cons h t1 =>
 cases t1 with|cons h1 t2 =>
 cases t2
 obtain⟨i,z,hi,a1,N,a0,a2⟩:=CE hz
 obtain⟨i1,Z,rfl⟩:=AR.1 hs
 obtain⟨i2,U,rfl⟩:=ID.1 hb
 rw[hi]at Z U
 cases Z;cases U
 simp only[An]at Y
 split at Y
 ·rename_i c
  simp only[Ahd,Ag,Ahi,AhB,AhS,Ahe,Ahf]at Y
  obtain⟨n,hn,⟨⟨⟨g1,g2⟩,g3⟩,g4⟩,rfl,rfl⟩:=Y
  obtain⟨k,hx,E⟩:=DF h hn
  have hy:=Cd (RepX.toV rfl h1)
  have J:=run_make (P:=P) w t e i z hu hi a1 k .i64 (n:Int) (c:Int) (by omega) (by omega) (by
   have g1':i.bytes*c<=281474976710656:=by rw[AiK];exact g1
   have:((i.bytes*c:Nat):Int)<=281474976710656:=by omega
   rwa[Int.natCast_mul]at this) (by omega)
  simp only[Int.toNat_natCast]at J
  have W:Uni i.size (List.replicate n zs):=Uni.replicate a0
  have a5:n*i.size<=c*i.size:=Aif _ E
  have u:((madeCells z.cells (c*i.size)).toList.take (n*i.size))=(List.replicate n z.cells.toList).flatten:=by
   have:=Ph z.cells c (by omega)
   rw[N]at this
   have hm:(madeCells z.cells (c*i.size)).toList=(List.replicate c z.cells.toList).flatten:=by
    rw[<-this]
    simp[madeCells,N]
   rw[hm]
   have a3:Uni i.size (List.replicate c z.cells.toList):=Uni.replicate (by simpa using N)
   rw[<-Is a3,List.take_replicate,Nat.min_eq_left E]
  refine NG (cap:=c) (cur:=madeCells z.cells (c*i.size)) (c:=.slice (some ⟨w.heap.size,0,none⟩) n c) a4 g3 W (Gw.alloc w _ none) (by simp) (heap_alloc_new w _) (by simpa using E) (by unfold maxLen;omega) (size_madeCells _ _) ?_ (by simp[execOp,ho,hx,hy,J]) (fun ρ' Q=>?_)
  ·rw[List.length_replicate,u]
   clear J u a5 hn E W hx
   induction n with
   | zero=>simpa using RepL.nil
   | succ n ih=>rw[List.replicate_succ,List.replicate_succ,Aic,Aic];exact(a2 w S ρ M.H).append ih
  ·refine .sl M.H.length n i.size 0 n _ e (List.replicate n zs) 0 false _ c (Kl _ _) (by omega) (by simp) E (by unfold maxLen;omega) (fun hl=>?_) ⟨_,rfl⟩ (fun _ _=>⟨w.heap.size,by simp,.inl Q.symm⟩) (fun _ _ _ _=>⟨by rw[Q],_,(0,0),by rw[Q];exact heap_alloc_new w _,size_madeCells _ _⟩)
   rw[AhB]at hl
   exact hl.symm
 ·cases Y
end
end Go.Mx
namespace Go.Mx
section
variable {P:Program} {w:World} {S:Nat->Prop} {ρ β:Nat->Nat} {M M':Mem} {H:Hp} {o:Oper} {a:Act} {vs:List V} {v:V} {call:Bt}
theorem cut3 {α:Type}(F X:List α)(p N:Nat)(h:p+X.length<=N)(z:N<=F.length):(F.take p++X++F.drop (p+X.length)).take N=(F.take N).take p++X++(F.take N).drop (p+X.length):=by
 have u:(F.take p++X).length=p+X.length:=by rw[Ahv,Ahx];omega
 rw[List.take_append,u,Ahz (by omega),List.take_take,Nat.min_eq_left (by omega),List.drop_take]
variable {esz:Nat} {es':L0} {xs:List V}
theorem SC {ix off:Nat}{es:L0}(E:Uni esz es)(h:BS esz es ix off xs=some es'):
  es'.flatten=es.flatten.take (ix*esz+off)++xs++es.flatten.drop (ix*esz+off+xs.length)/\Uni esz es'/\es'.length=es.length/\ix*esz+off+xs.length<=es.length*esz:=by
 unfold BS at h
 split at h
 ·rename_i Z
  rw[AhS]at Z
  simp only[Ahd,AT,Fz,Ag,AhS,Ahe]at h
  obtain⟨e,Y,e',⟨J,rfl⟩,N⟩:=h
  obtain⟨Q,rfl⟩:=By N
  have hel:=E.get Y
  have W:(ix+off / esz)*esz+off%esz=ix*esz+off:=by
   have:=Nat.div_add_mod off esz
   rw[AhU,AiK (off / esz) esz]
   omega
  have U:(ix+off / esz)*esz+esz<=es.length*esz:=by
   have:=Aif esz (Nat.succ_le_of_lt Q)
   rw[Nat.succ_mul]at this
   exact this
  have u:(e.take (off%esz)++xs++e.drop (off%esz+xs.length)).length=esz:=by
   simp only[Ahv,Ahx,AhT]
   omega
  refine⟨?_,E.set u,by simp,by omega⟩
  rw[Ku E Q u]
  have z:=Hz E Y
  generalize hF:es.flatten=F at z
  have hFl:F.length=es.length*esz:=by rw[<-hF];exact E.len
  generalize (ix+off / esz)*esz=q at z W U
  have a1:F.take q++e.take (off%esz)=F.take (ix*esz+off):=by
   rw[z,List.take_take,Nat.min_eq_left (by omega),<-W,List.take_add]
  have a2:e.drop (off%esz+xs.length)++F.drop (q+esz)=F.drop (ix*esz+off+xs.length):=by
   rw[z,<-W]
   have:F.drop (q+esz)=(F.drop q).drop esz:=by rw[Aiw]
   rw[this,<-List.drop_append_of_le_length (by rw[Ahx,AhT];omega),List.take_append_drop,Aiw]
   congr 1
   omega
  rw[<-a1,<-a2]
  simp only[Aip]
 ·simp only[Ahd,Fz,Ag,AhS,Ahe]at h
  obtain⟨l,⟨J,rfl⟩,rfl⟩:=h
  rw[E.len]at J
  have hl:(es.flatten.take (ix*esz+off)++xs++es.flatten.drop (ix*esz+off+xs.length)).length=es.length*esz:=by
   simp only[Ahv,Ahx,AhT,E.len]
   omega
  refine⟨?_,Ga esz _ _ (by omega),Gb ..,J⟩
  rw[EZ esz _ _ (by omega),Ahz (by omega)]
theorem Tk {x:V}{c:Value}(h:BM x=true)(J:RepV w S ρ H x c):c.oneCell'=true:=by
 cases J with
 | m z=>cases z <;> first|rfl|(simp[BM]at h)
 | un=>simp[BM]at h
 | ag xs cs N c u E=>simp[BM]at h
 | tu xs cs N c u E=>simp[BM]at h
 | _=>rfl
theorem Ih {cs:List Value}(h:xs.all BM=true)(z:RepL w S ρ H xs cs):∀c,c∈cs->c.oneCell'=true:=by
 induction xs generalizing cs with
 | nil=>rw[z.inv_nil];simp
 | cons x xs J =>
  obtain⟨c,r,rfl,N,E⟩:=z.inv_cons
  simp only[List.all_cons,Ahi]at h
  intro d u
  rcases AhF.1 u with rfl|u
  ·exact Tk h.1 N
  ·exact J h.2 E d u
theorem EH (w:World)(g:Nat)(cs:Array Value):Gw w (w.setRow g cs) (some g) :=
 ⟨⟨rfl,rfl,rfl,by simp,fun k _ u=>setRow_other w g k cs (fun e=>u (by rw[e]))⟩,fun _=>Ahk _⟩
variable {cur:Array Value} {mk:Nat×Nat}
theorem Jq {w:World}{g j:Nat}{ty:TypeId}(z:w.heap[g]? = some (.cells cur ty mk))(u:Win cur.size mk)(E:j<cur.size):w.frozen? ⟨g,j,none⟩=false:=by
 obtain⟨N,J⟩:=mk
 simp only[World.frozen?,z,Bool.and_eq_false_iff,decide_eq_false_iff_not]
 rcases u with u|u
 ·cases u
  omega
 ·simp only at u
  omega
theorem Cr (P:Program)(g o:Nat)(t:TypeId)(mk:Nat×Nat):∀(vs:List Value) (i:Nat) (cur:Array Value) (w:World),w.heap[g]? = some (.cells cur t mk)->Win cur.size mk->o+i+vs.length<=cur.size->(∀v∈vs,v.oneCell'=true) ->
  (storeCells ⟨g,o,none⟩ vs i).run P w=.ok () (w.setRow g (cur.toList.take (o+i)++vs++cur.toList.drop (o+i+vs.length)).toArray)
 | [],i,cur,w,hg,_,_,_=>by
  simp only[storeCells,Aid,AhW,Nat.add_zero,List.take_append_drop,Array.toArray_toList]
  rw[setRow_self w g cur t mk hg]
  rfl
 | v::rest,i,cur,w,hg,hw,hl,h1=>by
  have hi:o+i<cur.size:=by simp at hl;omega
  have E:(⟨g,o,none⟩:Addr).add i=⟨g,o+i,none⟩:=by unfold Addr.add;split <;> simp_all
  have u:w.cell? ⟨g,o+i,none⟩=some cur[o+i]:=by simp[World.cell?,hg,hi]
  have z:=Jq hg hw hi
  have J:(store ((⟨g,o,none⟩:Addr).add i) v).run P w=.ok () (w.setRow g (cur.setIfInBounds (o+i) v)):=by
   rw[E,run_store P w _ v _ (h1 v (by simp)),u]
   simp[z,setCell_eq_setRow w g (o+i) cur t mk v hg]
  have N:=Cr P g o t mk rest (i+1) (cur.setIfInBounds (o+i) v) (w.setRow g (cur.setIfInBounds (o+i) v)) (setRow_heap w g cur _ t _ hg) (by simpa using hw) (by simp at hl ⊢;omega) (fun x Q=>h1 x (by simp[Q]))
  simp only[storeCells,Sem.run_bind,J,Result.andThen_ok,N,setRow_setRow]
  congr 3
  have e:=list_seg_step cur.toList (o+i) v rest (by simp at hl ⊢;omega)
  simpa[Array.toList_setIfInBounds,Nat.add_assoc]using e
theorem SW {r ty:Nat}{es:L0}{base:Nat}{arr:Array Value}{cap:Nat}(Y:Ok w S ρ β M)(u:M.H[r]? = some (.cs ty esz es base false))(hh:w.heap[ρ r]? = some (.cells cur ty mk))(hw:Win cur.size mk) 
  (hU:Uni esz es') (N:es'.length=es.length) (E:arr.size=cur.size) (hcap:cur.size=cap*esz) (hle:es.length<=cap) (hcm:cap<=maxLen) (hr:RepL w S ρ M.H es'.flatten (arr.toList.take (es.length*esz))) :
  Ok (w.setRow (ρ r) arr) S ρ β { M with H:=M.H.set r (.cs ty esz es' es.length false) }/\Stp w S ρ β M (w.setRow (ρ r) arr) S ρ (M.H.set r (.cs ty esz es' es.length false)):=by
 obtain⟨hb,z,_,_,hns,_⟩:=Y.rows r _ u
 have J:=hns rfl
 have Z:(fun k=>if k=r then ρ r else ρ k)=ρ:=by
  funext k
  by_cases c:k=r
  ·rw[Ahl c,c]
  ·rw[Ahj c]
 have U:=setRow_heap w (ρ r) cur arr ty mk hh
 have Q:=Ok.setRow (w':=w.setRow (ρ r) arr) (S':=S) (g:=ρ r) (row':=.cs ty esz es' es.length false) Y u (EH w _ arr) (.inl rfl) (fun _ h=>h) (fun b h=>.inl h)
  (fun b hb=>setRow_other w _ b arr (fun e=>J (e ▸ hb)))
  (fun ty1 esz1 a0 a1 fz1 e=>by
   cases e
   refine⟨es',es.length,false,rfl,by omega,hb,fun b ver h1 h2 hA=>?_,fun _=>⟨rfl,fun cur1 mk1 h1=>?_⟩⟩
   ·rcases hA with hA|⟨_,hne,_⟩
    ·exact .inl hA
    ·omega
   ·rw[hh]at h1
    cases h1
    exact⟨arr,mk,U,E⟩)
  (fun a0 fz1 e=>by cases e)
  (fun W=>by
   rw[Z]at W ⊢
   exact⟨by omega,z,hU,fun e=>(by cases e),fun _=>J,arr,cap,mk,U,fun _=>(by rw[E];exact hw),by omega,by omega,hcm,by rw[N];exact hr.mono W⟩)
 rw[Z]at Q
 exact Q
theorem SP {t:TypeId}{x y:Operand}{s:Nat}(ho:o.op=.store t x y)(hs:BD P t=some s):S6 o a P w S ρ β M vs v M' call (.st s) [a.eval x,a.eval y]:=fun Y hv he=>by
 cases hv with|cons h t1 =>
 cases t1 with|cons h1 t2 =>
 cases t2
 obtain⟨i,hi,rfl⟩:=AR.1 hs
 simp only[An,Ahd,Ag,Ahi,AhB,Ahe,Ahf]at he
 obtain⟨xs,hxs,⟨hl,hone⟩,M1,E,rfl,rfl⟩:=he
 have hX:=RepX.cells h1 hxs
 have U:=hX.1
 have hX1:=Ih hone hX
 simp only[AhX]at U
 have run:∀(b off:Nat) (cur:Array Value) (T:TypeId) (mk:Nat×Nat),a.eval x=.pointer (some ⟨b,off,none⟩)->w.heap[b]? = some (.cells cur T mk)->Win cur.size mk->off+xs.length<=cur.size ->
   (execOp a.eval o).run P w=.ok .skip (w.setRow b (cur.toList.take off++(a.eval y).cells.toList++cur.toList.drop (off+xs.length)).toArray):=fun b off cur T mk hx hh hwin hle=>by
  have z:=Cr P b off T mk (a.eval y).cells.toList 0 cur w hh hwin (by simp;omega) hX1
  simp only[Nat.add_zero,AhX,U]at z
  have hne:¬(a.eval y).cells.size≠i.size:=by omega
  simp only[execOp,ho,hx,Instr.storeAt,Instr.sureAddr,storeVar,Sem.run_bind,Sem.run_pure,Result.andThen_ok,AS hi,Ahj hne,z]
 unfold Fm at E
 split at E
 ·rename_i d off
  simp only[Ahd,Ahe]at E
  obtain⟨cs0,h0,cs',hcs',rfl⟩:=E
  obtain⟨cur,T,hh,hr⟩:=Y.boxes d cs0 h0
  obtain⟨hR,hle⟩:=LP hcs' hr hX
  simp only[AhX,U]at hR hle
  have N:=run (β d) off cur T _ h hh (.inl rfl) hle
  obtain⟨Q,z⟩:=Ok.setBox (d:=d) (cs:=cs') (cur:=(cur.toList.take off++(a.eval y).cells.toList++cur.toList.drop (off+xs.length)).toArray) (T:=T) Y (by rw[h0];rfl) (EH w (β d) _) (setRow_heap w _ cur _ T (0,0) hh) (by simpa using hR)
  refine⟨_,undef,_,_,_,_,N,.inr ⟨rfl,rfl⟩,Q,z,.un,fun _ _=>rfl,fun k hk=>.inl ⟨k,?_,rfl⟩⟩
  simp only[AN]at hk
  split at hk
  ·rename_i e;rw[e,h0];rfl
  ·exact hk
 ·rename_i r ver ix off
  simp only[Ahd,AT]at E
  obtain⟨row,J,E⟩:=E
  split at E
  ·rename_i ty esz es base fz
   simp only[Ag,Ahi,AhB,AhQ,Ahd,Ahe]at E
   obtain⟨⟨hfz,hve⟩,es',hes',H',hH',rfl⟩:=E
   subst hfz
   obtain⟨hrl,rfl⟩:=By hH'
   have hx:=RepX.toV rfl h
   generalize hxe:a.eval x=c at hx
   cases hx with|pt _ _ _ _ ty' esz' es1 base' fz' p u h2 hix hb =>
   rw[J]at u
   simp only[Ahe,Row.cs.injEq]at u
   obtain⟨rfl,rfl,rfl,rfl,rfl⟩:=u
   obtain⟨hbl,hpos,hU,_,hns,cur,cap,mk,hh,W,hcs,Z,hcm,hr⟩:=Y.rows r _ J
   have W:=W rfl
   obtain⟨b,rfl,hA⟩:=hb (by omega)
   have hbe:b=ρ r:=by
    rcases hA with hA|⟨_,hne,_⟩
    ·exact hA
    ·exact absurd hve hne
   subst hbe
   obtain⟨w1,w2,w3,w4⟩:=SC hU hes'
   have hcap':es.length*esz<=cap*esz:=Aif _ Z
   have N:=run (ρ r) (ix*esz+off) cur ty mk hxe hh W (by omega)
   have hRL:RepL w S ρ M.H es'.flatten ((cur.toList.take (ix*esz+off)++(a.eval y).cells.toList++cur.toList.drop (ix*esz+off+xs.length)).toArray.toList.take (es.length*esz)):=by
    have:=cut3 cur.toList (a.eval y).cells.toList (ix*esz+off) (es.length*esz) (by simp;omega) (by simp;omega)
    simp only[AhX,U]at this
    rw[List.toList_toArray,this,w1]
    exact((hr.take _).append hX).append (hr.drop _)
   obtain⟨Q,z⟩:=SW (arr:=(cur.toList.take (ix*esz+off)++(a.eval y).cells.toList++cur.toList.drop (ix*esz+off+xs.length)).toArray) Y J hh W w2 w3 (by simp;omega) hcs Z hcm hRL
   exact⟨_,undef,_,_,_,_,N,.inr ⟨rfl,rfl⟩,Q,z,.un,fun _ _=>rfl,fun k hk=>.inl ⟨k,hk,rfl⟩⟩
  ·cases E
 ·cases E
end
end Go.Mx
namespace Go.Mx
section
variable {P:Program} {w:World} {S:Nat->Prop} {ρ β:Nat->Nat} {M M':Mem} {H:Hp} {o:Oper} {a:Act} {vs:List V} {v:V} {call:Bt}
theorem Jo (r:Nat):(fun k=>if k=r then ρ r else ρ k)=ρ:=by
 funext k
 by_cases c:k=r
 ·rw[Ahl c,c]
 ·rw[Ahj c]
variable {c c':Value}
theorem FR (n:Nat){k:Nat}{x y:I}(h:eqC k x y=some true)(E:RepI w S x c)(z:RepI w S y c'):Instr.sameBits n c' c=true:=by
 rcases Ix h E z with ⟨_,p,q,rfl,rfl,e⟩|⟨_,j,p,q,rfl,rfl,e⟩|⟨_,p,q,rfl,rfl,e⟩
 ·have:p=q:=eq_of_beq e.symm
  subst this
  cases n <;> simp[Instr.sameBits]
 ·have:p=q:=eq_of_beq e.symm
  subst this
  cases n <;> simp[Instr.sameBits]
 ·have u:=e.symm
  rw[beq_toListBytes]at u
  have:(q==p)=true:=by rw[beq_toListBytes,eq_of_beq u];simp
  cases n <;> simpa[Instr.sameBits]using this
theorem Fn (n:Nat):∀(ks:List Nat) (xs ys:List I) (cs u:List Value),Fs ks xs ys=some true->LI w S xs cs->LI w S ys u->((u.zip cs).all fun p=>Instr.sameBits n p.1 p.2)=true
 | [],xs,ys,cs,u,h,hx,hy=>by
  have hl:=Ek _ _ _ _ h
  have z:=hy.len
  have:u=[]:=AhJ (by rw[z,hl.2];rfl)
  subst this
  rfl
 | k::ks,[],ys,cs,u,h,hx,hy=>by simp[Fs]at h
 | k::ks,x::xs,[],cs,u,h,hx,hy=>by simp[Fs]at h
 | k::ks,x::xs,y::ys,cs,u,h,hx,hy=>by
  simp only[Fs,Ahd,Ahe,Ahi]at h
  obtain⟨r,Q,W,E,rfl,rfl⟩:=h
  obtain⟨c,cs,rfl,N,z⟩:=RepL.inv_cons (xs:=xs.map .m) hx
  obtain⟨c',u,rfl,U,J⟩:=RepL.inv_cons (xs:=ys.map .m) hy
  simp only[List.zip_cons_cons,List.all_cons,Ahi]
  exact⟨FR n Q N.imm U.imm,Fn n ks xs ys cs u E z J⟩
variable {kt:KT}
theorem LD {x y:I}(h:Dx kt x y=some true)(W:RepI w S x c)(z:RepI w S y c'):Instr.sameBits 10000 c' c=true:=by
 unfold Dx at h
 split at h
 ·split at h
  ·rename_i xs Z
   obtain⟨cs,rfl,Q⟩:=RepV.ofAgI (ρ:=id) (H:=[]) (.m W)
   obtain⟨u,rfl,U⟩:=RepV.ofAgI (ρ:=id) (H:=[]) (.m z)
   have J:=Ek _ _ _ _ h
   have E:=(LI.ofL Q).len
   have N:=(LI.ofL U).len
   have:=Fn 9999 _ _ _ _ _ h (.ofL Q) (.ofL U)
   simp only[AhX]at E N
   have Y:(u.size==cs.size)=true:=by rw[E,N,J.1,J.2];simp
   show ((u.size==cs.size)&&(u.toList.zip cs.toList).all fun(x,y)=>Instr.sameBits 9999 x y)=true
   rw[Y]
   exact this
  ·cases h
 ·split at h
  ·exact FR _ h W z
  ·cases h
theorem Kh {kt:KT}{key:I}:∀ {es:List (I×V)} {i:Nat},Jx kt key es=some (some i) -> ∃p,es[i]? = some p/\Dx kt key p.1=some true
 | [],i,h=>by simp[Jx]at h
 | (k,x)::es,i,h=>by
  simp only[Jx,Ahd]at h
  obtain⟨b,z,h⟩:=h
  cases b with
  | true=>simp at h;subst h;exact⟨_,rfl,z⟩
  | false =>
   simp only[Ahd,Ahe]at h
   obtain⟨q,E,u⟩:=h
   cases q with
   | none=>simp at u
   | some j =>
    simp at u
    subst u
    simpa using Kh E
theorem Mq (w:World)(r:Nat)(x:Obj):Gw w { w with heap:=w.heap.setIfInBounds r x } (some r) :=
 ⟨⟨rfl,rfl,rfl,by simp,fun k _ u=>by
  have:r≠k:=fun e=>u (by rw[e])
  simp[this]⟩,fun _=>Ahk _⟩
variable {es:List (I×V)} {ents:Array MapEntry} {clock:Nat}
theorem Tu {r:Nat}{es':List (I×V)}{u:Array MapEntry}{clock':Nat}(Q:Ok w S ρ β M)(E:M.H[r]? = some (.mp es false))(hh:w.heap[ρ r]? = some (.map ents clock))(hE:Ents w S ρ M.H es' u.toList)(Z:Brn u clock'):
  Ok { w with heap:=w.heap.setIfInBounds (ρ r) (.map u clock') } S ρ β { M with H:=M.H.set r (.mp es' false) }/\Stp w S ρ β M { w with heap:=w.heap.setIfInBounds (ρ r) (.map u clock') } S ρ (M.H.set r (.mp es' false)):=by
 obtain⟨_,U,_⟩:=Q.rows r _ E
 have N:=U rfl
 have a2:=(AhO.1 hh).1
 have J:=Ok.setRow (w':={ w with heap:=w.heap.setIfInBounds (ρ r) (.map u clock') }) (S':=S) (g:=ρ r) (row':=.mp es' false) Q E (Mq w _ _) (.inl rfl) (fun _ h=>h) (fun b h=>.inl h)
  (fun b hb=>by
   have:ρ r≠b:=fun e=>N (e ▸ hb)
   simp[this])
  (fun ty1 esz1 W Y a1 e=>by cases e)
  (fun W a1 e=>⟨rfl,es',false,rfl⟩)
  (fun z=>by
   rw[Jo]at z ⊢
   refine⟨fun e=>(by cases e),fun _=>N,u,clock',by simp[a2],⟨by have:=All2.length hE;simpa using this.symm,Z⟩,fun j k x hj=>?_⟩
   obtain⟨a0,h1,h2,h3⟩:=All2.get hE j _ hj
   exact⟨a0,by simpa using h1,h2.mono z.hw z.hS,h3.mono z⟩)
 rw[Jo]at J
 exact J
theorem Ents.ofRow {r:Nat}{fz:Bool}(z:Ok w S ρ β M)(u:M.H[r]? = some (.mp es fz)):∃ents clock,w.heap[ρ r]? = some (.map ents clock)/\Ents w S ρ M.H es ents.toList/\Brn ents clock:=by
 obtain⟨_,_,ents,clock,U,⟨Z,J⟩,Y⟩:=z.rows r _ u
 exact⟨ents,clock,U,All2.ofGet (by simpa using Z) (fun j p N=>by
  obtain⟨E,W,Q⟩:=Y j p.1 p.2 N
  exact⟨E,by simpa using W,Q⟩),J⟩
variable {k:Value}
theorem XR {x:Value}(h:Brn ents clock):Brn (ents.push { key:=k,val:=x,born:=clock }) (clock+1):=by
 refine⟨fun y u=>?_,?_⟩
 ·rw[Array.toList_push]at u
  rcases AhV.1 u with u|u
  ·have:=h.1 y u;omega
  ·rw[AhH.1 u];exact Nat.lt_succ_self _
 ·rw[Array.toList_push,List.map_append,List.nodup_append]
  refine⟨h.2,by simp,fun a z b E e=>?_⟩
  simp only[AhL,List.map_nil,AhH]at E
  obtain⟨y,u,rfl⟩:=AhE.1 z
  have:=h.1 y u
  omega
theorem RO {x:Value}{i:Nat}(h:Brn ents clock):Brn (ents.modify i fun e=>{ e with key:=k,val:=x }) clock:=by
 have e:(ents.modify i fun e=>{ e with key:=k,val:=x }).toList.map (·.born)=ents.toList.map (·.born):=by
  apply List.ext_getElem?
  intro j
  simp only[AhD,Array.getElem?_toList,Array.getElem?_modify]
  split
  ·cases ents[j]? <;> rfl
  ·rfl
 refine⟨fun y u=>?_,by rw[e];exact h.2⟩
 have E:y.born∈ents.toList.map (·.born):=by rw[<-e];exact AiD u
 obtain⟨z,J,N⟩:=AhE.1 E
 have:=h.1 z J
 omega
theorem TW {i:Nat}(h:Brn ents clock):Brn (ents.eraseIdxIfInBounds i) clock:=by
 have e:(ents.eraseIdxIfInBounds i).toList.Sublist ents.toList:=by
  unfold Array.eraseIdxIfInBounds
  split
  ·rw[Array.toList_eraseIdx]
   exact List.eraseIdx_sublist _ _
  ·exact .refl _
 exact⟨fun y u=>h.1 y (e.subset u),(e.map _).nodup h.2⟩
variable {t kt0 e:TypeId}
theorem SQ {m k x:Operand}(ho:o.op=.mapUpdate t m k x\/o.op=.insert t m k x)(hu:P.underlying t=some (.map kt0 e))(hkt:Sr P kt0=some kt):S6 o a P w S ρ β M vs v M' call (.mup kt) [a.eval m,a.eval k,a.eval x]:=fun hok hv Q=>by
 cases hv with|cons h t1 =>
 cases t1 with|cons h1 t2 =>
 cases t2 with|cons h2 t3 =>
 cases t3
 simp only[An]at Q
 split at Q
 ·rename_i r
  simp only[Ahd,AT]at Q
  obtain⟨row,U,Q⟩:=Q
  split at Q
  ·rename_i es
   simp only[Ahd,Ag,Ahi,Ahe,Ahf]at Q
   obtain⟨key,hkey,⟨hfa,a0⟩,es',hes',H',hH',rfl,rfl⟩:=Q
   have hke:=NQ hkey
   subst hke
   obtain⟨hrl,rfl⟩:=By hH'
   have J:=(RepX.toV rfl h1).imm
   have hxv:=RepX.toV hfa h2
   have hm:a.eval m=.map (some (ρ r)):=by
    have:=RepX.toV rfl h
    generalize a.eval m=c at this
    cases this
    rfl
   obtain⟨ents,clock,hh,hE,hbr⟩:=Ents.ofRow hok U
   obtain⟨p,hp,rfl⟩:=OQ hes'
   have hck:=Di (P:=P) (w:=w) false hkt a0 J
   have hfk:=Dh (P:=P) hkt J a0 hE hp
   have Z:∀u clock',(Instr.mapUpdate t (.map (some (ρ r))) (a.eval k) (a.eval x)).run P w=.ok () { w with heap:=w.heap.setIfInBounds (ρ r) (.map u clock') }->Brn u clock' -> ∀es',Ents w S ρ M.H es' u.toList ->
     Outc w S ρ β M (.l (.mup kt)) .un { M with H:=M.H.set r (.mp es' false) } ((execOp a.eval o).run P w):=fun u clock' hrun hbr' es' hE'=>by
    obtain⟨hok',hst⟩:=Tu (clock':=clock') hok U hh hE' hbr'
    refine⟨.skip,undef,_,_,_,_,?_,.inr ⟨rfl,rfl⟩,hok',hst,.un,fun _ _=>rfl,fun d hd=>.inl ⟨d,hd,rfl⟩⟩
    rcases ho with ho|ho <;> simp[execOp,ho,hm,hrun]
   cases p with
   | none =>
    have hn:DH ents.toList 0 none=none:=rfl
    refine Z (ents.push { key:=a.eval k,val:=a.eval x,born:=clock }) (clock+1) ?_ (XR hbr) _ ?_
    ·simp only[Instr.mapUpdate,Sem.run_bind,run_underlying hu,Result.andThen_ok,MapKept.run_getObj_map hh,hck,hfk,hn,MapKept.run_setObj_map _ hh]
    ·refine All2.ofGet (by have:=All2.length hE;simp at this ⊢;omega) fun j q N=>?_
     by_cases c:j<es.length
     ·rw[AhC c]at N
      obtain⟨E,h1,h2⟩:=All2.get hE j q N
      refine⟨E,?_,h2⟩
      have a1:=(Ahg.1 h1).1
      simp only[Array.toList_push]
      rw[AhC a1]
      exact h1
     ·have hl:=All2.length hE
      have hj':=(Ahg.1 N).1
      simp only[Ahv,AhR,AhW]at hj'
      have hje:j=es.length:=by omega
      subst hje
      simp at N
      subst N
      exact⟨{ key:=a.eval k,val:=a.eval x,born:=clock },by rw[hl];simp,J,hxv⟩
   | some i =>
    obtain⟨q,hq,hqk⟩:=Kh hp
    obtain⟨E,W,hE1,hE2⟩:=All2.get hE i q hq
    have hn:DH ents.toList 0 (some i)=some (i,E.val):=by simp only[DH,Ahp,W,Ail,Aih]
    have hsb:=LD hqk J hE1
    have z:ents[i]? = some E:=by simpa using W
    refine Z (ents.modify i fun e=>{ e with key:=a.eval k,val:=a.eval x }) clock ?_ (RO hbr) _ ?_
    ·simp only[Instr.mapUpdate,Sem.run_bind,run_underlying hu,Result.andThen_ok,MapKept.run_getObj_map hh,hck,hfk,hn,z,Ail,AiJ,Instr.keyThatStays,hsb,if_true,Sem.run_pure,MapKept.run_setObj_map _ hh]
    ·refine All2.ofGet (by have:=All2.length hE;simp at this ⊢;omega) fun j q' N=>?_
     by_cases c:i=j
     ·subst c
      have a1:=(Ahg.1 hq).1
      simp[a1]at N
      subst N
      exact⟨{ E with key:=a.eval k,val:=a.eval x },by simp[z],J,hxv⟩
     ·rw[Aij c]at N
      obtain⟨Y,h1,h2⟩:=All2.get hE j q' N
      have h1':ents[j]? = some Y:=by simpa using h1
      exact⟨Y,by simp[c,h1'],h2⟩
  ·cases Q
 ·cases Q
theorem AaF {c:Go.Call}(ho:o.op=.call c)(hb:c.callee=.builtin .delete)(ht:c.argTypes[0]? = some t)(hu:P.underlying t=some (.map kt0 e))(hkt:Sr P kt0=some kt):S6 o a P w S ρ β M vs v M' call (.mdl kt) (c.args.toList.map a.eval):=fun hok hv z=>by
 match vs,z with
 | [m,k],z =>
  obtain⟨cm,ck,U,h,h1⟩:=hv.inv2
  have hm:=AbX U
  simp only[An]at z
  split at z
  ·rename_i r
   simp only[Ahd,AT]at z
   obtain⟨row,E,z⟩:=z
   split at z
   ·rename_i es
    simp only[Ahd,Ag,Ahe,Ahf]at z
    obtain⟨key,hkey,es',⟨Q,a5⟩,H',hH',rfl,rfl⟩:=z
    have hke:=NQ hkey
    subst hke
    obtain⟨hrl,rfl⟩:=By hH'
    have hkr:=(RepX.toV rfl h1).imm
    have hmc:cm=.map (some (ρ r)):=by
     have:=RepX.toV rfl h
     cases this
     rfl
    subst hmc
    obtain⟨ents,clock,hh,W,Z⟩:=Ents.ofRow hok E
    obtain⟨p,hp,rfl⟩:=PJ a5
    have a2:=Di (P:=P) (w:=w) ents.isEmpty hkt Q hkr
    have Y:=Dh (P:=P) hkt hkr Q W hp
    have N:∀u,(Builtin.delete_ c.argTypes o.type #[.map (some (ρ r)),ck]).run P w=.ok (.tuple #[]) { w with heap:=w.heap.setIfInBounds (ρ r) (.map u clock) }->Brn u clock -> ∀es',Ents w S ρ M.H es' u.toList ->
      Outc w S ρ β M (.l (.mdl kt)) (.tu []) { M with H:=M.H.set r (.mp es' false) } ((execOp a.eval o).run P w):=fun u a1 a0 es' hE'=>by
     obtain⟨a4,hst⟩:=Tu (clock':=clock) hok E hh hE' a0
     exact⟨_,.tuple #[],_,_,_,_,AD ho hb (fun _=>by rw[hm];rfl) a1,.inl rfl,a4,hst,RepL.toTu (cs:=#[]) .nil,fun _ _=>rfl,fun d hd=>.inl ⟨d,hd,rfl⟩⟩
    cases p with
    | none =>
     have hn:DH ents.toList 0 none=none:=rfl
     refine N ents ?_ Z _ W
     simp[Builtin.delete_,ht,run_underlying hu,MapKept.run_getObj_map hh,a2,Y,hn,MapKept.run_setObj_map _ hh]
    | some i =>
     obtain⟨q,hq,hqk⟩:=Kh hp
     obtain⟨ent,J,hE1,hE2⟩:=All2.get W i q hq
     have hn:DH ents.toList 0 (some i)=some (i,ent.val):=by simp only[DH,Ahp,J,Ail,Aih]
     refine N (ents.eraseIdxIfInBounds i) ?_ (TW Z) _ ?_
     ·simp[Builtin.delete_,ht,run_underlying hu,MapKept.run_getObj_map hh,a2,Y,hn,MapKept.run_setObj_map _ hh]
     ·have a3:i<ents.size:=by have:=(Ahg.1 J).1;simpa using this
      have:(ents.eraseIdxIfInBounds i).toList=ents.toList.eraseIdx i:=by simp[Array.eraseIdxIfInBounds,a3]
      rw[this]
      refine All2.ofGet (by
       have:=All2.length W
       have h2:=(Ahg.1 hq).1
       rw[List.length_eraseIdx,List.length_eraseIdx]
       simp at this ⊢
       rw[Ahl a3,Ahl h2,this]) fun j q' hj=>?_
      rw[List.getElem?_eraseIdx]at hj ⊢
      split at hj
      ·rename_i c;rw[Ahl c];exact All2.get W j q' hj
      ·rename_i c;rw[Ahj c];exact All2.get W (j+1) q' hj
   ·cases z
  ·cases z
end
end Go.Mx
