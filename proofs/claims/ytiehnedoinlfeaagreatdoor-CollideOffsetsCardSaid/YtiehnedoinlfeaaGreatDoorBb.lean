/- Soundness of the machine, part 2. Nothing here speaks of a program. -/
import Derived.Test.YtiehnedoinlfeaaGreatDoorBa
import Derived.Laws.IdiomStrings
import Derived.Laws.MakeOwn
import Derived.Lib.UnsafeStr
import Derived.WideKeyRuns
import Derived.MapKept
import Derived.Laws.CopyRow
set_option linter.unusedSimpArgs false
set_option linter.unusedVariables false
set_option linter.unusedSectionVars false
namespace Go.Mx
section
variable {P:Program} {w:World} {S:Nat->Prop} {ρ β:Nat->Nat} {M:Mem} {H:Hp} {o:Oper} {a:Act} {vs:List V} {v:V}
def Su (neg:Bool):BinOp:=match neg with
 | true=>.neq
 | false=>.eql
variable {t:TypeId} {x y:Operand} {c c':Value} {neg r:Bool}
theorem Ke (J:∀k n,c ≠ .int k n)(u:∀k p q,c ≠ .complex k p q)(E:∀k n,c ≠ .float k n)(z:∀s,c ≠ .string s) 
  (N:(eqGuard (Su neg) t x y c c').run P w=.ok () w) (h:(Op.equal t c c').run P w=.ok r w) :
  (do eqGuard (Su neg) t x y c c';binOp (Su neg) t c c':Sem Value).run P w=.ok (.bool (xor neg r)) w:=by
 rw[Sem.run_bind,N,Result.andThen_ok]
 cases neg
 ·have:binOp .eql t c c'=(do pure (.bool (<-Op.equal t c c'))):=by
   unfold binOp
   cases c <;> cases c' <;> first|rfl|(exfalso;first|exact J _ _ rfl|exact u _ _ _ rfl|exact E _ _ rfl|exact z _ rfl)
  simp only[Su,this,Sem.run_bind,h,Result.andThen_ok,Sem.run_pure]
  simp
 ·have:binOp .neq t c c'=(do pure (.bool (!(<-Op.equal t c c')))):=by
   unfold binOp
   cases c <;> cases c' <;> first|rfl|(exfalso;first|exact J _ _ rfl|exact u _ _ _ rfl|exact E _ _ rfl|exact z _ rfl)
  simp only[Su,this,Sem.run_bind,h,Result.andThen_ok,Sem.run_pure]
  simp
variable {ty:TypeId}
theorem AaS (N:o.op=.binOp (Su neg) t x y ty)(W:P.underlying t=some .bool):S4 o a P w S ρ β M vs v (.eqb neg) [a.eval x,a.eval y]:=fun z Y u=>by
 cases Y with|cons h J =>
 cases J with|cons U Q =>
 cases Q
 simp only[Ar]at u
 split at u
 ·rename_i p q
  simp only[vb,Aho]at u
  subst u
  have hx:=CH (RepX.toV rfl h)
  have Z:=CH (RepX.toV rfl U)
  have E:(eqGuard (Su neg) t x y (.bool p) (.bool q)).run P w=.ok () w:=by cases neg <;> simp[eqGuard,Su]
  have hr:=Ke (P:=P) (w:=w) (x:=x) (y:=y) (neg:=neg) (by simp) (by simp) (by simp) (by simp) E (run_equalIn_bool w _ t p q W)
  refine .val z (RepX.ofV (.m (.b (xor neg (p==q))))) ?_
  simp only[execOp,N,hx,Z]
  rw[Sem.run_bind,hr]
  rfl
 ·cases u
variable {ks:List Nat}
theorem RF (u:Xy P t=some ks):Cl P t=some true/\P.eqGuardType P.depth t=false/\CU P 6 t=some ks:=by
 unfold Xy at u
 split at u
 ·rename_i z;simp only[Ag,Aia]at u;exact⟨by simp[Cl,z],u⟩
 ·rename_i z;simp only[Ag,Aia]at u;exact⟨by simp[Cl,z],u⟩
 ·cases u
theorem AaR (ho:o.op=.binOp (Su neg) t x y ty)(hf:Xy P t=some ks):S4 o a P w S ρ β M vs v (.eqs neg ks) [a.eval x,a.eval y]:=fun z hv u=>by
 cases hv with|cons h Y =>
 cases Y with|cons h1 t2 =>
 cases t2
 simp only[Ar]at u
 split at u
 ·rename_i xs ys
  simp only[vb,Ahn,Aho]at u
  obtain⟨r,E,rfl⟩:=u
  obtain⟨J,hx,lx⟩:=RepV.ofAgI (RepX.toV rfl h)
  obtain⟨N,hy,Z⟩:=RepV.ofAgI (RepX.toV rfl h1)
  obtain⟨g1,W,g3⟩:=RF hf
  have U:=Ks 6 t ks g3 9994 w S (.agg J) (.agg N) _ _ xs ys r (.inl ⟨g1,_,rfl,rfl⟩) (.inl ⟨g1,_,rfl,rfl⟩) (.ofL lx) (.ofL Z) E
  have Q:=run_eqGuard_agg w (Su neg) t x y J N W
  have E:=Ke (P:=P) (w:=w) (x:=x) (y:=y) (neg:=neg) (by simp) (by simp) (by simp) (by simp) Q U
  refine .val z (RepX.ofV (.m (.b (xor neg r)))) ?_
  simp only[execOp,ho,hx,hy]
  rw[Sem.run_bind,E]
  rfl
 ·cases u
theorem PC:∀(xs:List Value) (k off:Nat) (cells:Array Value),off+k+xs.length<=cells.size ->
  ((xs.zipIdx k).foldl (fun cs p=>cs.setIfInBounds (off+p.2) p.1) cells).toList=cells.toList.take (off+k)++xs++cells.toList.drop (off+k+xs.length)
 | [],k,off,cells,h=>by simp
 | x::xs,k,off,cells,h=>by
  simp only[Aib]at h
  rw[List.zipIdx_cons,List.foldl_cons,PC xs (k+1) off _ (by simp;omega)]
  have u:off+k<cells.toList.length:=by simp;omega
  simp only[Array.toList_setIfInBounds,Aib]
  have E:(cells.toList.set (off+k) x).take (off+(k+1))=cells.toList.take (off+k)++[x]:=by
   rw[List.set_eq_take_append_cons_drop,Ahv u,show off+(k+1)=(off+k)+1 by omega]
   rw[List.take_append,AhH,Nat.min_eq_left (by omega),List.take_take,Nat.min_eq_right (by omega)]
   simp
  have z:(cells.toList.set (off+k) x).drop (off+(k+1)+xs.length)=cells.toList.drop (off+k+(xs.length+1)):=by
   rw[List.drop_set_of_lt (by omega)]
   congr 1
   omega
  rw[E,z]
  simp
theorem PH (c:Array Value)(off:Nat)(cells:Array Value)(h:off+c.size<=cells.size):
  (c.zipIdx.foldl (fun cs (p:Value×Nat)=>cs.setIfInBounds (off+p.2) p.1) cells).toList=cells.toList.take off++c.toList++cells.toList.drop (off+c.size):=by
 rw[<-Array.foldl_toList,Array.toList_zipIdx]
 have:=PC c.toList 0 off cells (by simpa using h)
 simpa using this
theorem LD {xs cs l:List V}{off:Nat}{X C:List Value}(h:FC cs off xs=some l)(u:RepL w S ρ H cs C)(z:RepL w S ρ H xs X):RepL w S ρ H l (C.take off++X++C.drop (off+X.length))/\off+X.length<=C.length:=by
 simp only[FC,Ag,Aid,Aho]at h
 obtain⟨J,rfl⟩:=h
 have E:=z.1
 have N:=u.1
 rw[E]
 exact⟨((u.take off).append z).append (u.drop _),by omega⟩
theorem Kw {place:Nat->Option (Nat×Nat)}:∀(ps:List (Nat×Nat)) (u:List (Nat×Value)) (xs cs l:List V) (C:Array Value),TK cs ps xs=some l->RepL w S ρ H cs C.toList->All2 (RepX w S ρ β H) xs (u.map (·.2)) ->
  (∀(j:Nat) p q,ps[j]? = some p->u[j]? = some q->place q.1=some p) -> ∃Q,Instr.fill place C u=some Q/\RepL w S ρ H l Q.toList
 | [],u,xs,cs,l,C,h,hc,E,hp=>by
  cases xs with
  | nil =>
   simp only[TK,Aho]at h
   subst h
   cases u with
   | nil=>exact⟨C,rfl,hc⟩
   | cons p ps=>cases E
  | cons x xs=>simp[TK]at h
 | p::ps,u,xs,cs,l,C,h,hc,E,hp=>by
  cases xs with
  | nil=>obtain⟨off,sz⟩:=p;simp[TK]at h
  | cons x xs =>
   obtain⟨off,sz⟩:=p
   simp only[TK,Ahn,Ag,AhL]at h
   obtain⟨lx,a1,hsz,W,N,h⟩:=h
   cases u with
   | nil=>cases E
   | cons q u =>
    obtain⟨i,c⟩:=q
    cases E with|cons Z E =>
    have J:=RepX.cells Z a1
    have z:=hp 0 (off,sz) (i,c) rfl rfl
    obtain⟨Y,h2⟩:=LD N hc J
    have hcsz:c.cells.size=sz:=by have:=J.1;simp at this;omega
    simp only[Aih]at Y h2
    rw[<-PH c.cells off C h2]at Y
    obtain⟨Q,a0,U⟩:=Kw ps u xs W l _ h Y E (fun j p q hj hq=>hp (j+1) p q (by simpa using hj) (by simpa using hq))
    refine⟨Q,?_,U⟩
    have z:place i=some (off,sz):=z
    simp only[Instr.fill,z]
    rw[Aht (by simp;omega)]
    exact a0
theorem DR (f:Operand->Value)(ps:Array (Nat×Operand)):(ps.map fun(i,x)=>(i,f x)).toList=ps.toList.map fun q=>(q.1,f q.2):=by simp
theorem Ps {α β:Type}{f:α->Sem β}{g:α->β}(w:World):∀(l:List α),(∀x,x∈l->(f x).run P w=.ok (g x) w)->(l.mapM f).run P w=.ok (l.map g) w
 | [],_=>by simp
 | x::l,h=>by
  simp only[List.mapM_cons,Sem.run_bind,h x (by simp),Result.andThen_ok,Ps w l (fun y u=>h y (by simp[u])),Sem.run_pure,AhV]
theorem Ig {z:Array Field}:∀ {ps:List (Nat×Operand)} {l:List (Nat×Nat)},Ih P z ps=some l -> ∀(j:Nat) p q,l[j]? = some p->ps[j]? = some q -> ∃f s,z[q.1]? = some f/\BD P f.type=some s/\p=(f.offset,s)
 | [],l,h,j,p,q,hp,hq=>by simp at hq
 | (i,x)::ps,l,h,j,p,q,hp,hq=>by
  simp only[Ih,Ahn,Aho]at h
  obtain⟨f,E,s,hs,J,u,rfl⟩:=h
  cases j with
  | zero=>simp at hp hq;subst hp;subst hq;exact⟨f,s,E,hs,rfl⟩
  | succ j=>exact Ig u j p q (by simpa using hp) (by simpa using hq)
variable {ps:Array (Nat×Operand)} {zs:List V}
theorem Hr {E:Array Field}{Q:List (Nat×Nat)}(ho:o.op=.build t ps)(hz:Dw P t=some zs)(hu:P.underlying t=some (.struct E))(J:(E.toList.all fun f=>(P.info? f.type).isSome)=true)(Z:Ih P E ps.toList=some Q):S4 o a P w S ρ β M vs v (.build zs Q) ((ps.toList.map (·.2)).map a.eval):=fun a1 hv he=>by
 obtain⟨i,z,N,W,hz2,hz3,a3⟩:=CG hz
 simp only[Ar,Ahn,Aho]at he
 obtain⟨cs,a2,rfl⟩:=he
 have u:(E.mapM fun f=>do pure (f.offset,<-sizeOf f.type):Sem (Array (Nat×Nat))).run P w=.ok (E.map fun f=>(f.offset,((P.info? f.type).map (·.size)).getD 0)) w:=by
  rw[Array.mapM_eq_mapM_toList]
  simp only[Sem.run_map]
  rw[Ps (g:=fun f=>(f.offset,((P.info? f.type).map (·.size)).getD 0)) w E.toList (fun f Y=>by
   have:=AhE.1 J f Y
   obtain⟨i,N⟩:=Ais.1 this
   simp[AR N,N])]
  simp only[Result.andThen,<-Array.toList_map]
 obtain⟨C',a4,U⟩:=Kw (place:=fun k=>(E.map fun f=>(f.offset,((P.info? f.type).map (·.size)).getD 0))[k]?) (β:=β) Q (ps.map fun(i,x)=>(i,a.eval x)).toList vs zs cs z.cells a2 (a3 w S ρ M.H)
  (by rw[DR];simpa[Aiy,Function.comp_def]using hv) (fun j p q hp hq=>by
   rw[DR,AhN]at hq
   obtain⟨q',a0,rfl⟩:=AhW.1 hq
   obtain⟨f,s,Y,hs,rfl⟩:=Ig Z j p q' hp a0
   obtain⟨i',a5,rfl⟩:=AP.1 hs
   simp[Y,a5])
 refine .val a1 (RepX.ofV U.mkAg) ?_
 simp only[execOp,ho,Instr.build,Sem.run_bind,Br N W,run_underlying hu,Result.andThen_ok,u,a4]
 simp
theorem HX {e:TypeId}{n:Nat}{s:Nat}(ho:o.op=.build t ps)(hz:Dw P t=some zs)(hu:P.underlying t=some (.array n e))(hs:BD P e=some s):S4 o a P w S ρ β M vs v (.build zs (ps.toList.map fun q=>(q.1*s,s))) ((ps.toList.map (·.2)).map a.eval):=fun J hv he=>by
 obtain⟨i,z,hi,u,hz2,hz3,W⟩:=CG hz
 obtain⟨ie,Q,rfl⟩:=AP.1 hs
 simp only[Ar,Ahn,Aho]at he
 obtain⟨cs,U,rfl⟩:=he
 obtain⟨C',Y,E⟩:=Kw (place:=fun k=>some (k*ie.size,ie.size)) (β:=β) _ (ps.map fun(i,x)=>(i,a.eval x)).toList vs zs cs z.cells U (W w S ρ M.H)
  (by rw[DR];simpa[Aiy,Function.comp_def]using hv) (fun j p q hp Z=>by
   rw[DR,AhN]at Z
   obtain⟨q',N,rfl⟩:=AhW.1 Z
   rw[AhN,N]at hp
   simpa using hp)
 refine .val J (RepX.ofV E.mkAg) ?_
 simp only[execOp,ho,Instr.build,Sem.run_bind,Br hi u,run_underlying hu,Result.andThen_ok,AR Q,Y]
 simp
def CW:Nat->Value
 | 0=>.pointer none
 | 1=>.map none
 | 2=>.nilFunc
 | 3=>.nilIface
 | _=>.slice none 0 0
variable {k:Nat}
theorem LZ (h:Jz k y=true):y=.const (CW k):=by
 unfold Jz at h
 split at h <;> first|rfl|cases h
theorem Jy {x:V}(h:FF k x=some r)(E:RepX w S ρ β H x c):
  (k=0 /\ ∃p:Option Addr,c=.pointer p/\r=p.isNone)\/(k=1 /\ ∃p:Option Nat,c=.map p/\r=p.isNone)\/(k=2/\((c=.nilFunc/\r=true)\/(∃f u z,c=.func f u z)/\r=false)) \/
  (k=3/\((c=.nilIface/\r=true)\/(∃t u,c=.iface t u)/\r=false))\/(k=4 /\ ∃(p:Option Addr) (n m:Nat),c=.slice p n m/\r=p.isNone):=by
 unfold FF at h
 split at h <;> first|cases h|(simp only[Option.some.injEq]at h;subst h)
 ·have E:=(RepX.toV rfl E).imm;cases E;exact .inl ⟨rfl,none,rfl,rfl⟩
 ·have E:=(RepX.toV rfl E).imm;cases E;exact .inl ⟨rfl,some _,rfl,rfl⟩
 ·have E:=RepX.toV rfl E;cases E;exact .inl ⟨rfl,some _,rfl,rfl⟩
 ·exact .inl ⟨rfl,some _,E,rfl⟩
 ·have E:=(RepX.toV rfl E).imm;cases E;exact .inr (.inl ⟨rfl,none,rfl,rfl⟩)
 ·have E:=(RepX.toV rfl E).imm;cases E;exact .inr (.inl ⟨rfl,some _,rfl,rfl⟩)
 ·have E:=RepX.toV rfl E;cases E;exact .inr (.inl ⟨rfl,some _,rfl,rfl⟩)
 ·have E:=(RepX.toV rfl E).imm;cases E;exact .inr (.inr (.inl ⟨rfl,.inl ⟨rfl,rfl⟩⟩))
 ·have E:=(RepX.toV rfl E).imm;cases E;exact .inr (.inr (.inl ⟨rfl,.inr ⟨⟨_,_,_,rfl⟩,rfl⟩⟩))
 ·have E:=RepX.toV rfl E;cases E;exact .inr (.inr (.inl ⟨rfl,.inr ⟨⟨_,_,_,rfl⟩,rfl⟩⟩))
 ·have E:=(RepX.toV rfl E).imm;cases E;exact .inr (.inr (.inr (.inl ⟨rfl,.inl ⟨rfl,rfl⟩⟩)))
 ·have E:=(RepX.toV rfl E).imm;cases E;exact .inr (.inr (.inr (.inl ⟨rfl,.inr ⟨⟨_,_,rfl⟩,rfl⟩⟩)))
 ·have E:=(RepX.toV rfl E).imm;cases E;exact .inr (.inr (.inr (.inr ⟨rfl,none,_,_,rfl,rfl⟩)))
 ·have E:=(RepX.toV rfl E).imm
  cases E with|sl _ U cap esz b off cs N hm Q Z J hc hr =>
  obtain⟨p,rfl⟩:=J
  exact .inr (.inr (.inr (.inr ⟨rfl,some _,_,_,rfl,rfl⟩)))
 ·have E:=Jw (RepX.toV rfl E)
  cases E with|sl _ U cap esz b off cs N hm Q Z J hc hr =>
  obtain⟨p,rfl⟩:=J
  exact .inr (.inr (.inr (.inr ⟨rfl,some _,_,_,rfl,rfl⟩)))
 ·have E:=RepX.toV rfl E
  cases E with|sl _ _ _ _ _ _ ty es W fz U cap Y h1 h2 h3 h4 h5 hn hb Z =>
  obtain⟨p,rfl⟩:=hn
  exact .inr (.inr (.inr (.inr ⟨rfl,some _,_,_,rfl,rfl⟩)))
theorem Abx (d:Nat){x:V}(h:FF k x=some r)(U:RepX w S ρ β H x c)(E:AeM P t=some k):
  (Op.equalIn (d+1) t c (CW k)).run P w=.ok r w/\(Op.equalIn (d+1) t (CW k) c).run P w=.ok r w:=by
 have Q:∃d,P.underlying t=some d:=by
  unfold AeM at E
  cases J:P.underlying t with
  | none=>simp[J]at E
  | some d=>exact⟨d,rfl⟩
 obtain⟨u,J⟩:=Q
 simp only[AeM,J]at E
 rcases Jy h U with ⟨rfl,p,rfl,rfl⟩|⟨rfl,p,rfl,rfl⟩|⟨rfl,N⟩|⟨rfl,N⟩|⟨rfl,p,n,m,rfl,rfl⟩
 ·cases u <;> simp at E
  simp only[Op.equalIn,CW,Sem.run_bind,run_underlying J,Result.andThen_ok]
  cases p <;> simp
 ·cases u <;> simp at E
  simp only[Op.equalIn,CW,Sem.run_bind,run_underlying J,Result.andThen_ok]
  cases p <;> simp
 ·cases u <;> simp at E
  simp only[Op.equalIn,CW,Sem.run_bind,run_underlying J,Result.andThen_ok]
  rcases N with ⟨rfl,rfl⟩|⟨⟨f,u,z,rfl⟩,rfl⟩ <;> simp
 ·cases u <;> simp at E
  simp only[Op.equalIn,CW,Sem.run_bind,run_underlying J,Result.andThen_ok]
  rcases N with ⟨rfl,rfl⟩|⟨⟨f,u,rfl⟩,rfl⟩ <;> simp
 ·cases u <;> simp at E
  simp only[Op.equalIn,CW,Sem.run_bind,run_underlying J,Result.andThen_ok]
  cases p <;> simp
theorem Mg {op:BinOp}(h:∀xs,c ≠ .agg xs)(z:(∃u,x=.const u) \/ ∃u,y=.const u):(eqGuard op t x y c c').run P w=.ok () w:=by
 rcases z with ⟨u,rfl⟩|⟨u,rfl⟩ <;> cases c <;> first|exact absurd rfl (h _)|(cases op <;> rfl)|(cases c' <;> cases op <;> first|rfl|(cases x <;> rfl))
theorem TA {x:V}(h:FF k x=some r)(E:RepX w S ρ β H x c):
  (∀k n,c ≠ .int k n)/\(∀k p q,c ≠ .complex k p q)/\(∀k n,c ≠ .float k n)/\(∀s,c ≠ .string s) /\ ∀xs,c ≠ .agg xs:=by
 rcases Jy h E with ⟨rfl,p,rfl,rfl⟩|⟨rfl,p,rfl,rfl⟩|⟨rfl,⟨rfl,rfl⟩|⟨⟨f,u,z,rfl⟩,rfl⟩⟩|⟨rfl,⟨rfl,rfl⟩|⟨⟨f,u,rfl⟩,rfl⟩⟩|⟨rfl,p,n,m,rfl,rfl⟩ <;> simp
theorem ST {z:Operand}(U:o.op=.binOp (Su neg) t x y ty)(ht:AeM P t=some k)(hz:(Jz k y=true/\z=x)\/(Jz k x=true/\z=y)):S4 o a P w S ρ β M vs v (.eqn neg k) [a.eval z]:=fun J hv W=>by
 cases hv with|cons h t1 =>
 cases t1
 simp only[Ar,vb,Ahn,Aho]at W
 obtain⟨r,hr,rfl⟩:=W
 obtain⟨e1,e2⟩:=Abx (P:=P) 9999 hr h ht
 obtain⟨n1,n2,n3,n4,n5⟩:=TA hr h
 refine .val J (RepX.ofV (.m (.b (xor neg r)))) ?_
 have u:(∀j n,CW k ≠ .int j n)/\(∀j p q,CW k ≠ .complex j p q)/\(∀j n,CW k ≠ .float j n)/\(∀s,CW k ≠ .string s) /\ ∀xs,CW k ≠ .agg xs:=by
  unfold CW
  split <;> simp
 rcases hz with ⟨E,rfl⟩|⟨E,rfl⟩
 ·have Y:=LZ E
  have Q:a.eval y=CW k:=by rw[Y];rfl
  have:=Ke (P:=P) (w:=w) (x:=z) (y:=y) (neg:=neg) n1 n2 n3 n4 (Mg n5 (.inr ⟨_,Y⟩)) e1
  simp only[execOp,U,Q]
  rw[Sem.run_bind,this]
  rfl
 ·have Z:=LZ E
  have N:a.eval x=CW k:=by rw[Z];rfl
  have:=Ke (P:=P) (w:=w) (x:=x) (y:=z) (neg:=neg) u.1 u.2.1 u.2.2.1 u.2.2.2.1 (Mg u.2.2.2.2 (.inl ⟨_,Z⟩)) e2
  simp only[execOp,U,N]
  rw[Sem.run_bind,this]
  rfl
end
end Go.Mx
namespace Go.Mx
section
variable {P:Program} {w:World} {S:Nat->Prop} {ρ β:Nat->Nat} {M:Mem} {H:Hp} {o:Oper} {a:Act} {vs:List V} {v:V}
theorem Es (w:World)(x:Obj):Gw w (w.drew.alloc x) none:=⟨⟨rfl,rfl,rfl,by simp,fun k u _=>heap_alloc_old w x k u⟩,fun _=>Nat.le_succ _⟩
theorem Gy (w:World)(e:TypeId)(cs:Array Value):(Go.newRow e cs).run P w=.ok ⟨w.heap.size,0,none⟩ (w.alloc (.cells cs e)):=rfl
def Ahk (S:Nat->Prop)(w:World):Nat->Prop:=fun b=>S b\/b=w.heap.size
theorem Ok.allocI (u:Ok w S ρ β M){w':World}(z:Gw w w' none)(hs:w'.heap.size=w.heap.size+1):Ok w' (Ahk S w) ρ β M/\Stp w S ρ β M w' (Ahk S w) ρ M.H :=
 u.grow z (fun _ h=>.inl h) (fun b h=>h.imp id (fun e=>by omega)) (fun b h=>by
  rcases h with h|h
  ·have:=u.lt b h;omega
  ·omega)
theorem Ij:∀ {es:L0} {l:LT},Ah BF es=some l->es=Bn l
 | [],l,h=>by simp[Ah]at h;subst h;rfl
 | e::es,l,h=>by
  simp only[Ah,Ahn,Aho]at h
  obtain⟨x,u,z,hl,rfl⟩:=h
  rw[Oi u,Ij hl]
  rfl
theorem Me (l:LT):(Bn l).flatten=l.flatten.map .m:=by rw[Bn,List.map_flatten]
theorem immS_len (l:LT):(Bn l).length=l.length:=by simp[Bn]
variable {n:Nat}
theorem Xq {l:LT}(h:Uni n (Bn l)):Uni n l:=fun e u=>by
 have:=h (e.map .m) (by simp only[Bn,AhP];exact⟨e,u,rfl⟩)
 simpa using this
theorem Wy {l:LT}(h:Uni n l):Uni n (Bn l):=fun e z=>by
 simp only[Bn,AhP]at z
 obtain⟨E,u,rfl⟩:=z
 simpa using h E u
theorem RepI.ofRow {es:LT}{esz b cap:Nat}{cur:Array Value}{T:TypeId}{mk:Nat×Nat}(Q:S b)(U:w.heap[b]? = some (.cells cur T mk))(N:Uni esz es)(hr:RepL w S ρ H (es.flatten.map .m) (cur.toList.take (es.length*esz))) 
  (u:es.length<=cap) (Y:cap<=maxLen):RepI w S (.sl es) (.slice (some ⟨b,0,none⟩) es.length cap):=by
 obtain⟨hl,c,W,hx⟩:=hr.toI
 refine .sl es (some ⟨b,0,none⟩) cap esz b 0 (fun i j=>c (i*esz+j)) u Y N (fun _=>⟨rfl,Q⟩) ⟨_,rfl⟩ (fun i e j x J E=>?_) (fun i e j x J E=>?_)
 ·have Z:=Do N J E
  have z:=W _ _ Z
  rw[AhX]at z
  split at z
  ·rw[Air,cell_of_row w b _ cur T mk U]
   simpa using z
  ·cases z
 ·exact hx _ _ (Do N J E)
theorem JE {esz:Nat}:∀(ps:List Nat) (u:List (Nat×Value)) (xs:List V) (es es':L0) (C:Array Value),BO esz es ps xs=some es'->Uni esz es->RepL w S ρ H es.flatten C.toList->All2 (RepX w S ρ β H) xs (u.map (·.2)) ->
  ps=u.map (·.1) -> ∃C',Instr.fill (fun i=>some (i*esz,esz)) C u=some C'/\RepL w S ρ H es'.flatten C'.toList/\Uni esz es'/\es'.length=es.length
 | [],u,xs,es,es',C,h,hu,hc,E,Y=>by
  cases xs with
  | nil =>
   simp only[BO,Aho]at h
   subst h
   cases u with
   | nil=>exact⟨C,rfl,hc,hu,rfl⟩
   | cons p ps=>cases E
  | cons x xs=>simp[BO]at h
 | p::ps,u,xs,es,es',C,h,hu,hc,E,Y=>by
  cases xs with
  | nil=>simp[BO]at h
  | cons x xs =>
   simp only[BO,Ahn,Ag,AhL]at h
   obtain⟨lx,hlx,N,es1,Q,h⟩:=h
   cases u with
   | nil=>cases E
   | cons q u =>
    obtain⟨i,c⟩:=q
    cases E with|cons hc0 E =>
    simp only[AhV,List.cons.injEq]at Y
    obtain⟨rfl,Y⟩:=Y
    obtain⟨U,rfl⟩:=Bw Q
    have J:=RepX.cells hc0 hlx
    have z:c.cells.size=esz:=by have:=J.1;simp at this;omega
    have hfl:=hu.len
    have a0:=hc.1
    simp only[Aih]at a0
    have hle:p*esz+esz<=es.length*esz:=by
     have:=Aip esz (Nat.succ_le_of_lt U)
     rw[Nat.succ_mul]at this
     exact this
    have h1:RepL w S ρ H (es.set p lx).flatten (C.toList.take (p*esz)++c.cells.toList++C.toList.drop (p*esz+esz)):=by
     rw[Kr hu U N]
     exact((hc.take _).append J).append (hc.drop _)
    rw[<-z,<-PH c.cells (p*c.cells.size) C (by rw[z];omega)]at h1
    obtain⟨C',Z,hl',hu',W⟩:=JE ps u xs (es.set p lx) es' _ h (hu.set N) h1 E Y
    refine⟨C',?_,hl',hu',by simpa using W⟩
    simp only[Instr.fill]
    rw[Aht (by simp;omega)]
    rw[z]at Z
    exact Z
theorem Ph (zs:Array Value)(n:Nat)(u:0<zs.size):((Array.range (n*zs.size)).map (fun i=>zs[i%zs.size]!)).toList=(List.replicate n zs.toList).flatten:=by
 have z:Uni zs.size (List.replicate n zs.toList):=Uni.replicate (by simp)
 apply List.ext_getElem?
 intro p
 by_cases E:p<n*zs.size
 ·have W:(List.replicate n zs.toList)[p / zs.size]? = some zs.toList:=by
   rw[List.getElem?_replicate,Ahv]
   exact(Nat.div_lt_iff_lt_mul u).2 E
  have N:=Nat.mod_lt p u
  have U:zs.toList[p%zs.size]? = some zs[p%zs.size]:=by simp[N]
  have J:=Do z W U
  have Q:p / zs.size*zs.size+p%zs.size=p:=by rw[AiU];exact Nat.div_add_mod p zs.size
  rw[Q]at J
  rw[J]
  simp[E,N]
 ·rw[List.getElem?_eq_none (by simp;omega),List.getElem?_eq_none (by rw[z.len];simp;omega)]
variable {t e:TypeId} {ps:Array (Nat×Operand)} {zs:List V}
theorem Fr {s:Nat}{es:L0}(hu:P.underlying t=some (.slice e))(hs:BD P e=some s)(Q:n*s<=16777216)(a9:1<=s)(hz:Dw P e=some zs) 
  (hv:All2 (RepX w S ρ β H) vs ((ps.toList.map (·.2)).map a.eval)) (he:BO s (List.replicate n zs) (ps.toList.map (·.1)) vs=some es) :
  ∃Z,(Instr.buildSlice t n (ps.map fun(i,x)=>(i,a.eval x))).run P w=.ok (.slice (some ⟨w.heap.size,0,none⟩) n n) (w.alloc (.cells Z e))/\RepL w S ρ H es.flatten Z.toList/\Uni s es/\es.length=n:=by
 obtain⟨i,z,Y,a1,a5,a4,a7⟩:=CG hz
 obtain⟨i',W,rfl⟩:=AP.1 hs
 rw[Y]at W
 cases W
 obtain⟨N,a2,a6,a8⟩:∃N:Array Value,(n*i.size=0->N=#[])/\(n*i.size≠0->N=z.cells)/\RepL w S ρ H (List.replicate n zs).flatten ((Array.range (n*i.size)).map (fun k=>N[k%N.size]!)).toList:=by
  by_cases u:n*i.size=0
  ·refine⟨#[],fun _=>rfl,fun h=>absurd u h,?_⟩
   have hn:n=0:=by
    rcases Nat.mul_eq_zero.1 u with h|h
    ·exact h
    ·omega
   subst hn
   simpa using RepL.nil
  ·refine⟨z.cells,fun h=>absurd h u,fun _=>rfl,?_⟩
   rw[<-a5,Ph _ _ (by omega)]
   clear u he Q
   induction n with
   | zero=>simpa using RepL.nil
   | succ n ih=>rw[List.replicate_succ,List.replicate_succ,Ain,Ain];exact(a7 w S ρ H).append ih
 obtain⟨Z,U,a0,a3,J⟩:=JE (β:=β) _ (ps.map fun(i,x)=>(i,a.eval x)).toList vs _ es _ he (Uni.replicate a4) a8
  (by rw[DR];simpa[Aiy,Function.comp_def]using hv) (by rw[DR];simp[Aiy,Function.comp_def])
 refine⟨Z,?_,a0,a3,by simpa using J⟩
 have E:¬n*i.size > 2 ^ 24:=by omega
 by_cases u:n*i.size=0
 ·have:=a2 u
  subst this
  simp only[Instr.buildSlice,Sem.run_bind,run_underlying hu,Result.andThen_ok,AR Y,Aht E,Ahv u,Sem.run_pure,U,Gy]
 ·have:=a6 u
  subst this
  simp only[Instr.buildSlice,Sem.run_bind,run_underlying hu,Result.andThen_ok,AR Y,Aht E,Aht u,Sem.run_pure,U,Gy,Br Y a1]
theorem AaX {s:Nat}(ho:o.op=.buildSlice t n ps)(hu:P.underlying t=some (.slice e))(hs:BD P e=some s)(z:n*s<=16777216)(E:1<=s)(hz:Dw P e=some zs):S4 o a P w S ρ β M vs v (.bsl s zs n (ps.toList.map (·.1))) ((ps.toList.map (·.2)).map a.eval):=fun a1 hv he=>by
 simp only[Ar,Ahn,Aho]at he
 obtain⟨es,a3,l,hl,rfl⟩:=he
 obtain⟨Y,N,hR,hU,u⟩:=Fr (P:=P) (w:=w) (S:=S) (ρ:=ρ) (β:=β) (H:=M.H) (a:=a) hu hs z E hz hv a3
 have Z:=Ij hl
 subst Z
 obtain⟨U,W⟩:=a1.allocI (Gw.alloc w (.cells Y e) none) (by simp)
 refine⟨.value (.slice (some ⟨w.heap.size,0,none⟩) n n),_,w.alloc (.cells Y e),_,ρ,β,by simp[execOp,ho,N],.inl rfl,U,W,?_,fun _ _=>rfl,fun d hd=>.inl ⟨d,hd,rfl⟩⟩
 rw[immS_len]at u
 have Q:=Xq hU
 have J:=W.list hR
 rw[Me]at J
 have a2:l.length<=maxLen:=by
  have:l.length*1<=l.length*s:=Nat.mul_le_mul_left _ E
  rw[<-u]at z
  unfold maxLen;omega
 have a0:=J.1
 simp only[AhD,Q.len]at a0
 have:=RepI.ofRow (ρ:=ρ) (H:=M.H) (S:=Ahk S w) (b:=w.heap.size) (cap:=l.length) (.inr rfl) (heap_alloc_new w (.cells Y e)) Q (by rw[AhJ (by omega)];exact J) (Ahu _) a2
 rw[<-u]
 exact .ls l _ this
theorem AaE {c:Go.Call}(Z:o.op=.call c)(Y:c.callee=.builtin .unsafeSliceData):S4 o a P w S ρ β M vs v .usd (c.args.toList.map a.eval):=fun N hv u=>by
 cases vs with
 | nil=>simp[Ar]at u
 | cons x r =>
  cases r with
  | cons y r=>simp[Ar]at u
  | nil =>
   obtain⟨c0,z,h⟩:=hv.inv1
   have hm:=Acd z
   simp only[Ar]at u
   split at u
   ·simp only[Aho]at u
    subst u
    have hc:=EX (RepX.toV rfl h)
    subst hc
    exact .val N (RepX.ofV (.m .nlp)) (AD Z Y (fun _=>by rw[hm];rfl) (Lib.run_unsafeSliceData_nil w c.argTypes o.type 0 0))
   ·rename_i r U esz st len lim
    simp only[Ag,Ahs,AhL,Aid,Aho]at u
    obtain⟨⟨⟨rfl,rfl⟩,a0⟩,rfl⟩:=u
    have h:=RepX.toV rfl h
    cases h with|sl _ _ _ _ _ _ ty es E fz ad cap J h1 h2 h3 h4 h5 hn W ha =>
    obtain⟨p,rfl⟩:=hn
    refine .val N (RepX.ofV (.pt r U 0 0 ty 1 es E fz p J h2 (by omega) (fun Q=>?_))) (AD Z Y (fun _=>by rw[hm];rfl) (Lib.run_unsafeSliceData_row w c.argTypes o.type p len cap (by omega)))
    obtain⟨b,hp,hA⟩:=W Q (by omega)
    exact⟨b,by simpa using hp,hA⟩
   ·cases u
end
end Go.Mx
namespace Go.Mx
section
variable {P:Program} {w:World} {S:Nat->Prop} {ρ β:Nat->Nat} {M:Mem} {H:Hp}
theorem Db (em:Bool):∀(k:Nat) (t:TypeId) (ks:List Nat),CU P k t=some ks -> ∀(d:Nat) (w:World) (S:Nat->Prop) (c:Value) (cs:List Value) (xs:List I),Vt P t c cs->LI w S xs cs->xs.length=ks.length ->
  (Instr.checkKey em (d+k) t c).run P w=.ok () w
 | 0,_,_,h,_=>by simp[CU]at h
 | k+1,t,ks,h,d=>by
  intro w S c cs xs J Z hl
  rw[<-Nat.add_assoc]
  simp only[CU]at h
  split at h
  ·rename_i u
   simp only[Instr.checkKey,Sem.run_bind,run_underlying u,Result.andThen_ok,Sem.run_pure]
  ·rename_i u
   simp only[Instr.checkKey,Sem.run_bind,run_underlying u,Result.andThen_ok,Sem.run_pure]
  ·rename_i u
   simp only[Instr.checkKey,Sem.run_bind,run_underlying u,Result.andThen_ok,Sem.run_pure]
  ·rename_i fs u
   have N:Cl P t=some true:=by simp[Cl,u]
   simp only[Ag,Aia]at h
   obtain⟨hst,h⟩:=h
   obtain⟨a,rfl,rfl⟩:=J.agg N
   simp only[Instr.checkKey,Sem.run_bind,run_underlying u,Result.andThen_ok]
   rw[<-Array.forIn_toList]
   have IH:=fun t ks (hk:CU P k t=some ks)=>Db em k t ks hk d w S
   have hx0:LI w S xs (a.toList.drop 0):=by simpa using Z
   clear Z J u hst
   generalize (0:Nat)=o0 at h hx0
   generalize fs.toList=L at h
   induction L generalizing o0 ks xs with
   | nil=>simp
   | cons f L ih =>
    simp only[JD,Ag,Ahs,AhL,AhC,Ahn,Aho,AP]at h
    obtain⟨⟨ho,hn⟩,s,Q,s',⟨i,Y,rfl⟩,z,l,U,rfl⟩:=h
    simp only[AhF]at hl
    obtain⟨c,W,J⟩:=DX Q Y z.symm hx0 (by omega)
    have p2:=IH _ _ Q c _ _ J (hx0.take _) (by rw[AhH];omega)
    rw[<-ho]at W
    simp only[List.forIn_cons,Sem.run_bind,hn,ne_eq,not_false_eq_true,if_true,Result.andThen_ok,W,p2,Sem.run_pure]
    have E:=hx0.drop s.length
    rw[AiH]at E
    rw[<-z]at U
    exact ih (hl:=by rw[Aie];omega) (h:=U) (hx0:=E)
  ·rename_i n e u
   have N:Cl P t=some true:=by simp[Cl,u]
   simp only[Ahn,Ag,AhL,Aho,AP]at h
   obtain⟨s,Q,s',⟨i,Y,rfl⟩,z,rfl⟩:=h
   obtain⟨a,rfl,rfl⟩:=J.agg N
   simp only[Instr.checkKey,Sem.run_bind,run_underlying u,Result.andThen_ok]
   simp only[Std.Legacy.Range.forIn_eq_forIn_range',Std.Legacy.Range.size,Nat.sub_zero,Nat.add_one_sub_one,Nat.div_one]
   have hx0:LI w S xs (a.toList.drop (0*s.length)):=by simpa using Z
   have hl0:xs.length=n*s.length:=by rw[hl];simp[List.length_flatten]
   clear Z J u hl
   generalize (0:Nat)=j at hx0
   induction n generalizing j xs with
   | zero=>simp
   | succ n ih =>
    rw[Aif]at hl0
    obtain⟨c,W,J⟩:=DX Q Y z.symm hx0 (by omega)
    have p2:=Db em k e s Q d w S c _ _ J (hx0.take _) (by rw[AhH];omega)
    rw[z]at W
    simp only[List.range'_succ,List.forIn_cons,Sem.run_bind,AR Y,Result.andThen_ok,W,p2,Sem.run_pure]
    have E:=hx0.drop s.length
    rw[AiH,show j*s.length+s.length=(j+1)*s.length by rw[Aif];omega]at E
    exact ih (hl0:=by rw[Aie];omega) (hx0:=E)
  ·cases h
variable {t:TypeId} {kt:KT}
theorem LX (h:Sr P t=some kt):CU P 6 t=some kt.ks/\Cl P t=some kt.ag:=by
 simp only[Sr,Ahn,Aho]at h
 obtain⟨ks,u,ag,z,rfl⟩:=h
 exact⟨u,z⟩
variable {c:Value}
theorem Dl {key:I}(Q:Bool)(h:Sr P t=some kt)(J:GA kt key=true)(E:RepI w S key c):(Instr.checkKey Q 10000 t c).run P w=.ok () w:=by
 obtain⟨U,z⟩:=LX h
 have u:∃r,Dy kt key key=some r:=by
  unfold GA at J
  split at J
  ·rename_i r E;exact⟨r,E⟩
  ·cases J
 obtain⟨r,u⟩:=u
 unfold Dy at u
 cases hag:kt.ag with
 | true =>
  rw[hag]at u z
  cases key with
  | ag xs =>
   obtain⟨cs,rfl,W⟩:=RepV.ofAgI (ρ:=id) (H:=[]) (.m E)
   exact Db Q 6 t _ U 9994 w S _ _ xs (.inl ⟨z,_,rfl,rfl⟩) (.ofL W) (Em _ _ _ _ u).1
  | _=>simp at u
 | false =>
  rw[hag]at u z
  simp only at u
  split at u
  ·rename_i k N
   rw[N]at U
   exact Db Q 6 t _ U 9994 w S c [c] [key] (.inr ⟨z,rfl⟩) (RepL.cons (.m E) .nil) (by simp)
  ·cases u
def Ents (w:World)(S:Nat->Prop)(ρ:Nat->Nat)(H:Hp)(es:List (I×V))(ents:List MapEntry):Prop:=All2 (fun p (e:MapEntry)=>RepI w S p.1 e.key/\RepV w S ρ H p.2 e.val) es ents
def Ju (kt:KT)(key:I):List (I×V)->Option (Option Nat)
 | []=>some none
 | (k,_)::r=>(Dy kt key k).bind fun q=>match q with
  | true=>some (some 0)
  | false=>(Ju kt key r).bind fun p=>some (p.map (· + 1))
theorem Mr {kt:KT}{key:I}:∀ {es:List (I×V)} {q:Option V},Kv kt key es=some q -> ∃p,Ju kt key es=some p/\q=p.bind fun i=>(es[i]?).map (·.2)
 | [],q,h=>by simp[Kv]at h;subst h;exact⟨none,rfl,rfl⟩
 | (k,x)::r,q,h=>by
  simp only[Kv,Ahn]at h
  obtain⟨b,u,h⟩:=h
  cases b with
  | true=>simp only[Aho]at h;subst h;exact⟨some 0,by simp[Ju,u],rfl⟩
  | false =>
   obtain⟨p,z,rfl⟩:=Mr h
   refine⟨p.map (· + 1),by simp[Ju,u,z],?_⟩
   cases p <;> simp
theorem OQ {kt:KT}{key:I}{x:V}:∀ {es es':List (I×V)},Wx kt key x es=some es' -> ∃p,Ju kt key es=some p/\es'=match p with
  | some i=>es.set i (key,x)
  | none=>es++[(key,x)]
 | [],es',h=>by simp[Wx]at h;subst h;exact⟨none,rfl,rfl⟩
 | (k,y)::r,es',h=>by
  simp only[Wx,Ahn]at h
  obtain⟨b,u,h⟩:=h
  cases b with
  | true=>simp only[Aho]at h;subst h;exact⟨some 0,by simp[Ju,u],rfl⟩
  | false =>
   simp only[Ahn,Aho]at h
   obtain⟨l,z,rfl⟩:=h
   obtain⟨p,E,rfl⟩:=OQ z
   refine⟨p.map (· + 1),by simp[Ju,u,E],?_⟩
   cases p <;> simp
theorem PJ {kt:KT}{key:I}:∀ {es es':List (I×V)},Afk kt key es=some es' -> ∃p,Ju kt key es=some p/\es'=match p with
  | some i=>es.eraseIdx i
  | none=>es
 | [],es',h=>by simp[Afk]at h;subst h;exact⟨none,rfl,rfl⟩
 | (k,y)::r,es',h=>by
  simp only[Afk,Ahn]at h
  obtain⟨b,u,h⟩:=h
  cases b with
  | true=>simp only[Aho]at h;subst h;exact⟨some 0,by simp[Ju,u],rfl⟩
  | false =>
   simp only[Ahn,Aho]at h
   obtain⟨l,z,rfl⟩:=h
   obtain⟨p,E,rfl⟩:=PJ z
   refine⟨p.map (· + 1),by simp[Ju,u,E],?_⟩
   cases p <;> simp
def DJ (ents:List MapEntry)(i:Nat)(p:Option Nat):Option (Nat×Value):=p.bind fun j=>(ents[j]?).map fun e=>(i+j,e.val)
theorem JK (e:MapEntry)(ents:List MapEntry)(i:Nat)(p:Option Nat):DJ (e::ents) i (p.map (· + 1))=DJ ents (i+1) p:=by
 cases p with
 | none=>rfl
 | some j=>simp only[DJ,Aix,Ahz,List.getElem?_cons_succ];congr 1;funext e;congr 1;omega
theorem PG {t:TypeId}{ks:List Nat}{xs:List I}{c:Value}(W:CU P 6 t=some ks)(N:Cl P t=some true)(Y:RepI w S (.ag xs) c):∀(es:List (I×V)) (ents:List MapEntry) (i:Nat) (p:Option Nat),Ents w S ρ H es ents->Ju ⟨true,ks⟩ (.ag xs) es=some p ->
  (Instr.findAsking t c ents i).run P w=.ok (DJ ents i p) w
 | [],ents,i,p,E,u=>by
  cases E
  simp only[Ju,Aho]at u
  subst u
  simp[Instr.findAsking,DJ]
 | (k,x)::es,ents,i,p,E,u=>by
  cases E with|cons hd E =>
  rename_i Q ents
  simp only[Ju,Ahn]at u
  obtain⟨b,J,u⟩:=u
  simp only[Dy]at J
  cases k with
  | ag ys =>
   obtain⟨U,rfl,lx⟩:=RepV.ofAgI (ρ:=id) (H:=[]) (.m Y)
   obtain⟨cy,hy,Z⟩:=RepV.ofAgI (ρ:=id) (H:=[]) (.m hd.1)
   have z:=Ks 6 t ks W 9994 w S (.agg U) (.agg cy) _ _ _ ys b (.inl ⟨N,_,rfl,rfl⟩) (.inl ⟨N,_,rfl,rfl⟩) (.ofL lx) (.ofL Z) J
   have z:(Op.equal t (.agg U) Q.key).run P w=.ok b w:=by rw[hy];exact z
   simp only[Instr.findAsking,Sem.run_bind,z,Result.andThen_ok]
   cases b with
   | true=>simp only[Aho]at u;subst u;simp[DJ]
   | false =>
    simp only[Ahn,Aho]at u
    obtain⟨q,z,rfl⟩:=u
    rw[JK]
    simpa using PG W N Y es ents (i+1) q E z
  | _=>simp at J
theorem Lu {k:Nat}{d:TypeDesc}{x y:I}{r:Bool}{c':Value}(u:CU P 6 t=some [k])(E:Cl P t=some false)(J:P.underlying t=some d)(h:eqC k x y=some r)(Q:RepI w S x c)(N:RepI w S y c'):Instr.sameNow d c c'=some r:=by
 have z:(k=0->d=.bool)/\(k=1 -> ∃j,d=.int j)/\(k=2->d=.string):=by
  simp only[CU,J]at u
  simp only[Cl,J,Ahz]at E
  cases d <;> simp at u E <;> subst u <;> simp
 rcases IA h Q N with ⟨rfl,p,q,rfl,rfl,rfl⟩|⟨rfl,j,p,q,rfl,rfl,rfl⟩|⟨rfl,p,q,rfl,rfl,rfl⟩
 ·rw[z.1 rfl];rfl
 ·obtain⟨U,rfl⟩:=z.2.1 rfl;simp[Instr.sameNow]
 ·rw[z.2.2 rfl];rfl
theorem Mq {t:TypeId}{k:Nat}{d:TypeDesc}{x:I}{c:Value}(N:CU P 6 t=some [k])(J:Cl P t=some false)(U:P.underlying t=some d)(Q:RepI w S x c):∀(es:List (I×V)) (ents:List MapEntry) (i:Nat) (p:Option Nat),Ents w S ρ H es ents->Ju ⟨false,[k]⟩ x es=some p ->
  Instr.findNow d c ents i=some (DJ ents i p)
 | [],ents,i,p,z,u=>by
  cases z
  simp only[Ju,Aho]at u
  subst u
  simp[Instr.findNow,DJ]
 | (y,v)::es,ents,i,p,z,u=>by
  cases z with|cons hd z =>
  rename_i Y ents
  simp only[Ju,Ahn]at u
  obtain⟨b,E,u⟩:=u
  simp only[Dy]at E
  have Z:=Lu N J U E Q hd.1
  simp only[Instr.findNow,Z]
  cases b with
  | true=>simp only[Aho]at u;subst u;simp[DJ]
  | false =>
   simp only[Ahn,Aho]at u
   obtain⟨q,W,rfl⟩:=u
   rw[JK]
   exact Mq N J U Q es ents (i+1) q z W
theorem Dk {key:I}{es:List (I×V)}{ents:List MapEntry}{p:Option Nat}(h:Sr P t=some kt)(W:RepI w S key c)(u:GA kt key=true)(Y:Ents w S ρ H es ents)(Z:Ju kt key es=some p):
  (Instr.findKey t c ents).run P w=.ok (DJ ents 0 p) w:=by
 obtain⟨N,z⟩:=LX h
 obtain⟨ag,ks⟩:=kt
 cases ag with
 | true =>
  have Q:∃xs,key=.ag xs:=by
   unfold GA at u
   simp only[Dy]at u
   split at u
   ·rename_i U;split at U
    ·exact⟨_,rfl⟩
    ·cases U
   ·cases u
  obtain⟨xs,rfl⟩:=Q
  rw[run_findKey_eq w (by
   simp only[Cl,Ahn]at z
   obtain⟨d,E,z⟩:=z
   rw[E]
   cases d <;> simp at z <;> rfl)]
  exact PG N z W es ents 0 p Y Z
 | false =>
  have hk:∃k,ks=[k]:=by
   obtain⟨ag,J,hl⟩:=Mo N
   rw[z]at J
   simp only[Aho]at J
   have:=hl J.symm
   exact List.length_eq_one_iff.1 this
  obtain⟨k,rfl⟩:=hk
  have E:∃d,P.underlying t=some d:=by
   simp only[Cl,Ahn]at z
   obtain⟨d,E,_⟩:=z
   exact⟨d,E⟩
  obtain⟨d,E⟩:=E
  exact MapKept.run_findKey E (Mq N z E W es ents 0 p Y Z)
end
end Go.Mx
namespace Go.Mx
section
variable {P:Program} {w:World} {S:Nat->Prop} {ρ β:Nat->Nat} {M:Mem} {H:Hp} {o:Oper} {a:Act} {vs:List V} {v:V}
variable {l:List V}
theorem HA {n:Nat}{xs:List V}(h:Dx n xs=some l):l=xs.take n/\l.length=n:=by
 simp only[Dx,Ag,AhL,Aho]at h
 exact⟨h.2.symm,by rw[<-h.2];exact h.1⟩
variable {off sz:Nat}
theorem Pj {esz ix:Nat}{es:L0}(z:Uni esz es)(h:CZ esz es ix off sz=some l):l=(es.flatten.drop (ix*esz+off)).take sz/\l.length=sz:=by
 unfold CZ at h
 split at h
 ·rename_i u
  rw[Aid]at u
  simp only[Ahn,AU]at h
  obtain⟨e,N,E⟩:=h
  obtain⟨rfl,J⟩:=HA E
  refine⟨?_,J⟩
  rw[HC z N,List.drop_take,List.take_take,Nat.min_eq_left (by omega),AiH]
  congr 2
  have:=Nat.div_add_mod off esz
  rw[Aif,AiU (off / esz) esz]
  omega
 ·exact HA h
variable {x:V} {c:Value} {cs:List V}
theorem FZ (a0:Ok w S ρ β M)(Y:RepX w S ρ β M.H x c)(h:readA M sz x=some cs):
  ∃b off cells,c=.pointer (some ⟨b,off,none⟩)/\cells.length=sz/\RepL w S ρ M.H cs cells/\(∀(j:Nat) u,cells[j]? = some u->w.cell? ⟨b,off+j,none⟩=some u)/\(Az x=true->S b \/ ∃r,r<M.H.length/\b=ρ r/\Fs x=[r]):=by
 unfold readA at h
 split at h
 ·rename_i d off
  simp only[Ahn]at h
  obtain⟨cs0,h0,ht⟩:=h
  obtain⟨cur,T,hh,hr⟩:=a0.boxes d cs0 h0
  obtain⟨rfl,hl⟩:=HA ht
  have hR:=(hr.drop off).take sz
  refine⟨β d,off,_,Y,by rw[hR.1];exact hl,hR,fun j u E=>?_,by simp[Az]⟩
  rw[AhX]at E
  split at E
  ·rw[AiS]at E
   rw[cell_of_row w _ _ cur T _ hh]
   simpa using E
  ·cases E
 ·rename_i r ver ix off
  simp only[Ahn,AU]at h
  obtain⟨row,N,h⟩:=h
  split at h
  ·rename_i ty esz es base fz
   simp only[Ag,Ahs,AiI,Aid,AhL]at h
   obtain⟨⟨hbv,Q⟩,ht⟩:=h
   have Y:=RepX.toV rfl Y
   cases Y with|pt _ _ _ _ ty' esz' es' base' fz' p J h2 hix hb =>
   rw[N]at J
   simp only[Aho,Row.cs.injEq]at J
   obtain⟨rfl,rfl,rfl,rfl,rfl⟩:=J
   obtain⟨b,rfl,hA⟩:=hb hbv
   obtain⟨_,hpos,hU,_,_,cur,cap,mk,hh,_,hcs,hcap,_,hr⟩:=a0.rows r _ N
   obtain⟨hl1,hl2⟩:=Pj hU ht
   subst hl1
   have hR:=(hr.drop (ix*esz+off)).take sz
   have Z:∀(j:Nat) u,(((cur.toList.take (es.length*esz)).drop (ix*esz+off)).take sz)[j]? = some u->w.cell? ⟨ρ r,ix*esz+off+j,none⟩=some u:=fun j u E=>by
    rw[AhX]at E
    split at E
    ·rw[AiS,AhX]at E
     split at E
     ·rw[cell_of_row w _ _ cur _ mk hh]
      simpa using E
     ·cases E
    ·cases E
   refine⟨b,ix*esz+off,_,rfl,by rw[hR.1];exact hl2,hR,fun j u E=>?_,fun _=>?_⟩
   rotate_left
   ·rcases hA with rfl|⟨hSb,_⟩
    ·exact .inr ⟨r,(Ahq.1 N).1,rfl,rfl⟩
    ·exact .inl hSb
   rcases hA with rfl|⟨_,hne,W⟩
   ·exact Z j u E
   ·have U:j<sz:=by
     have:=(Ahq.1 E).1
     rw[AhH]at this
     omega
    rcases Q with Q|Q
    ·have:ix*esz+esz<=ver*esz:=by
      have:=Aip esz (Nat.succ_le_of_lt hix)
      rw[Nat.succ_mul]at this
      exact this
     rw[W _ (by omega)]
     exact Z j u E
    ·exact absurd Q hne
  ·cases h
 ·rename_i xs
  obtain⟨rfl,hl⟩:=HA h
  have Y:=(RepX.toV rfl Y).imm
  cases Y with|pt _ b off c hS hc hr =>
  have hlen:sz<=xs.length:=by rw[AhH,AhD]at hl;omega
  refine⟨b,off,(List.range sz).map c,rfl,by simp,⟨by simp;omega,fun j y E=>?_⟩,fun j u E=>?_,fun _=>.inl hS⟩
  ·rw[AhX]at E
   split at E
   ·rename_i U
    rw[AhN]at E
    obtain⟨z,hz,rfl⟩:=AhW.1 E
    exact⟨c j,by simp[U],.m (hr j z hz)⟩
   ·cases E
  ·have U:j<sz:=by have:=(Ahq.1 E).1;simpa using this
   have hz:xs[j]? = some xs[j]:=Ahr (by omega)
   rw[hc j _ hz]
   simp[U]at E
   rw[E]
 ·cases h
variable {t:TypeId} {ag:Bool} {i:TypeInfo}
theorem Ib (z:Cl P t=some ag)(hi:P.info? t=some i)(hs:ag=true\/i.size=1){b:Nat}{cells:List Value}(hl:cells.length=i.size)(Q:∀(j:Nat) u,cells[j]? = some u->w.cell? ⟨b,off+j,none⟩=some u) 
 (Y:RepL w S ρ H cs cells) (W:DF ag cs=some v):∃c,(loadVar t ⟨b,off,none⟩).run P w=.ok c w/\RepV w S ρ H v c:=by
 rcases FQ (cs:=cells.toArray) (by simpa using Y) W with ⟨rfl,J⟩|⟨rfl,c,E,J⟩
 ·refine⟨_,?_,J⟩
  have:=run_loadCells_list (P:=P) w ⟨b,off,none⟩ cells (fun j u U=>by rw[By];exact Q j u U)
  rw[hl]at this
  simp only[loadVar,Sem.run_bind,DP z,Result.andThen_ok,if_true,AR hi,this,Sem.run_pure]
 ·refine⟨c,?_,J⟩
  have N:cells=[c]:=by simpa using AiO Array.toList E
  subst N
  have:=Q 0 c rfl
  simp only[Nat.add_zero]at this
  simp[loadVar,DP z,this,run_load,Result.andThen]
abbrev S5 (o:Oper)(a:Act)(P:Program)(w:World)(S:Nat->Prop)(ρ β:Nat->Nat)(M:Mem)(vs:List V)(v:V)(q:OR)(es:List Value):Prop:=Ok w S ρ β M->All2 (RepX w S ρ β M.H) vs es->readX M q vs=some v->Outc w S ρ β M (.r q) v M ((execOp a.eval o).run P w)
theorem OZ {x:Operand}{s:Nat}(ho:o.op=.load t x)(U:Cl P t=some ag)(hs:BD P t=some s)(J:ag=true\/s=1):S5 o a P w S ρ β M vs v (.ld ag s) [a.eval x]:=fun z hv W=>by
 cases hv with|cons h Z =>
 cases Z
 obtain⟨i,Y,rfl⟩:=AP.1 hs
 simp only[readX,Ahn]at W
 obtain⟨cs,N,Q⟩:=W
 obtain⟨b,off,cells,hx,hl,hR,hc,_⟩:=FZ z h N
 obtain⟨c,E,u⟩:=Ib (P:=P) (w:=w) U Y J hl hc hR Q
 refine .val z (RepX.ofV u) ?_
 simp[execOp,ho,hx,Instr.loadAt,Instr.sureAddr,E]
theorem LH:∀ {es:LT} {l:List (I×V)},pairs es=some l->l.length=es.length /\ ∀(j:Nat) k x,l[j]? = some (k,x) -> ∃y,x=.m y/\es[j]? = some [k,y]
 | [],l,h=>by simp[pairs]at h;subst h;simp
 | [k,x]::r,l,h=>by
  simp only[pairs,Ahn,Aho]at h
  obtain⟨U,u,rfl⟩:=h
  obtain⟨N,J⟩:=LH u
  refine⟨by simp[N],fun j E Q z=>?_⟩
  cases j with
  | zero=>simp at z;obtain⟨rfl,rfl⟩:=z;exact⟨x,rfl,rfl⟩
  | succ j=>simpa using J j E Q (by simpa using z)
 | []::_,_,h=>by simp[pairs]at h
 | [_]::_,_,h=>by simp[pairs]at h
 | (_::_::_::_)::_,_,h=>by simp[pairs]at h
variable {α:Type}
theorem All2.ofGet {β:Type}{R:α->β->Prop}:∀ {l:List α} {m:List β},m.length=l.length->(∀(j:Nat) x,l[j]? = some x -> ∃y,m[j]? = some y/\R x y)->All2 R l m
 | [],[],_,_=>.nil
 | [],_::_,h,_=>by simp at h
 | _::_,[],h,_=>by simp at h
 | x::l,y::m,h,hr=>by
  obtain⟨N,z,u⟩:=hr 0 x rfl
  simp at z
  subst z
  exact .cons u (All2.ofGet (by simpa using h) fun j J E=>by simpa using hr (j+1) J (by simpa using E))
theorem All2.get {β:Type}{R:α->β->Prop}:∀ {l:List α} {m:List β},All2 R l m -> ∀(j:Nat) x,l[j]? = some x -> ∃y,m[j]? = some y/\R x y
 | _,_,.nil,j,x,h=>by simp at h
 | _,_,.cons hxy t,0,x,h=>by simp at h;subst h;exact⟨_,rfl,hxy⟩
 | _,_,.cons hxy t,j+1,x,h=>by simpa using t.get j x (by simpa using h)
variable {es:List (I×V)}
theorem LS (Q:Ok w S ρ β M)(J:RepX w S ρ β M.H x c)(h:mapOf M.H x=some es):
  (c=.map none/\es=[]) \/ ∃r ents clock,c=.map (some r)/\w.heap[r]? = some (.map ents clock)/\Ents w S ρ M.H es ents.toList:=by
 unfold mapOf at h
 split at h
 ·simp only[Aho]at h
  subst h
  have:=(RepX.toV rfl J).imm
  cases this
  exact .inl ⟨rfl,rfl⟩
 ·rename_i l
  have:=(RepX.toV rfl J).imm
  obtain⟨h1,E⟩:=LH h
  cases this with|mp _ r ents clock ks xs hS hw hl hp hk a0 Y W =>
  refine .inr ⟨r,ents,clock,rfl,hw,All2.ofGet (by simp;omega) fun j p N=>?_⟩
  obtain⟨k,x⟩:=p
  obtain⟨y,rfl,z⟩:=E j k x N
  have Z:=hk j k y z
  have a2:=a0 j k y z
  cases hen:ents[j]? with
  | none=>simp[hen]at Z
  | some e =>
   simp only[hen,Aix,Aho]at Z a2
   exact⟨e,by simpa using hen,by rw[Z];exact Y j k y z,by rw[a2];exact .m (W j k y z)⟩
 ·rename_i r
  simp only[Ahn,AU]at h
  obtain⟨row,u,h⟩:=h
  split at h
  ·rename_i es' fz
   simp only[Aho]at h
   subst h
   have:=RepX.toV rfl J
   cases this
   obtain⟨_,_,ents,clock,hh,⟨hl,_⟩,hE⟩:=Q.rows r _ u
   exact .inr ⟨ρ r,ents,clock,rfl,hh,All2.ofGet (by simpa using hl) fun j p N=>by
    obtain⟨U,h1,E⟩:=hE j p.1 p.2 N
    exact⟨U,by simpa using h1,E⟩⟩
  ·cases h
 ·cases h
theorem NN {k:I}(h:AbI x=some k):x=.m k:=by cases x <;> simp[AbI]at h;rw[h]
def EZ (k e:TypeId)(y:Value)(ok:Bool)(es:Array MapEntry):Sem Value:=do
 Instr.checkKey es.isEmpty 10000 k y
 let (v,b) <-match <-Instr.findKey k y es.toList with
  | some (_,v)=>pure (v,true)
  | none=>pure (<-zeroValue e,false)
 pure (if ok then .tuple #[v,.bool b] else v)
variable {zs:List V}
theorem Jm {z:Value}{N:V}(hi:P.info? t=some i)(W:i.zero=some z)(u:Ln P t ag=true)(Q:RepL w S ρ H zs z.cells.toList)(J:DF ag zs=some N):RepV w S ρ H N z:=by
 simp only[Ln,hi,Ahz,W]at u
 cases z with
 | agg cs =>
  simp only at u
  subst u
  rcases FQ (cs:=cs) Q J with ⟨_,E⟩|⟨h,_⟩
  ·exact E
  ·cases h
 | _ =>
  simp only[Aia]at u
  subst u
  rcases FQ (cs:=#[_]) Q J with ⟨h,_⟩|⟨_,c,U,E⟩
  ·cases h
  ·simp at U
   rw[U]
   exact E
variable {k e:TypeId} {ok:Bool}
theorem Hc {kt:KT}{key:I}{cy:Value}{ents:Array MapEntry}{q:Option V}(hz:Dw P e=some zs)(hg:Ln P e ag=true)(W:Sr P k=some kt) 
  (Z:RepI w S key cy) (E:GA kt key=true) (hE:Ents w S ρ H es ents.toList) (hq:Kv kt key es=some q)
  (U:AbD zs ag ok q=some v):∃c,(EZ k e cy ok ents).run P w=.ok c w/\RepV w S ρ H v c:=by
 obtain⟨i,z,hi,u,hz2,hz3,a0⟩:=CG hz
 obtain⟨p,hp,rfl⟩:=Mr hq
 have N:=Dl (P:=P) (w:=w) ents.isEmpty W E Z
 have Q:=Dk (P:=P) W Z E hE hp
 have fin:∀(x:V) (c:Value) (b:Bool),RepV w S ρ H x c->RepV w S ρ H (okT ok x b) (if ok=true then .tuple #[c,.bool b] else c):=fun x c b hx=>by
  cases ok
  ·simpa[okT]using hx
  ·exact RepL.toTu (cs:=#[c,.bool b]) (.cons hx (.cons (.m (.b b)) .nil))
 cases p with
 | none =>
  simp only[Option.bind_none,AbD,Ahn,Aho]at U
  obtain⟨v0,J,rfl⟩:=U
  refine⟨_,?_,fin v0 z false (Jm hi u hg (a0 w S ρ H) J)⟩
  simp[EZ,N,Q,DJ,Br hi u]
 | some j =>
  simp only[Ahz]at U
  cases hej:es[j]? with
  | none =>
   have hn:ents.toList[j]? = none:=by
    rw[Ahx]at hej ⊢
    rw[<-All2.length hE]
    exact hej
   simp only[hej,Option.map_none,AbD,Ahn,Aho]at U
   obtain⟨v0,J,rfl⟩:=U
   refine⟨_,?_,fin v0 z false (Jm hi u hg (a0 w S ρ H) J)⟩
   have:DJ ents.toList 0 (some j)=none:=by simp only[DJ,Ahz,hn,Option.map_none]
   simp[EZ,N,Q,this,Br hi u]
  | some kx =>
   obtain⟨k0,x⟩:=kx
   obtain⟨Y,h1,_,h2⟩:=All2.get hE j _ hej
   simp only[hej,Aix,AbD,Aho]at U
   subst U
   refine⟨_,?_,fin x Y.val true h2⟩
   have:DJ ents.toList 0 (some j)=some (0+j,Y.val):=by simp only[DJ,Ahz,h1,Aix]
   simp[EZ,N,Q,this]
theorem AaL {x y:Operand}{kt:KT}(ho:o.op=.lookup t x y ok)(hu:P.underlying t=some (.map k e))(hz:Dw P e=some zs)(hg:Ln P e ag=true)(Q:Sr P k=some kt):S5 o a P w S ρ β M vs v (.lkp kt zs ag ok) [a.eval x,a.eval y]:=fun J hv U=>by
 cases hv with|cons h t1 =>
 cases t1 with|cons h1 t2 =>
 cases t2
 simp only[readX,Ahn,Ag]at U
 obtain⟨es,a0,key,N,q,⟨E,hq⟩,U⟩:=U
 have Z:=NN N
 subst Z
 have W:=(RepX.toV rfl h1).imm
 rcases LS J h a0 with ⟨Y,rfl⟩|⟨r,ents,clock,Y,hw,hE⟩
 ·obtain⟨c,z,u⟩:=Hc (P:=P) (v:=v) (ents:=#[]) hz hg Q W E .nil hq U
  refine .val J (RepX.ofV u) ?_
  have:(Instr.lookup t (.map none) (a.eval y) ok).run P w=.ok c w:=by
   rw[<-z]
   simp[Instr.lookup,EZ,run_underlying hu]
   rfl
  simp[execOp,ho,Y,this]
 ·obtain⟨c,z,u⟩:=Hc (P:=P) (v:=v) hz hg Q W E hE hq U
  refine .val J (RepX.ofV u) ?_
  have:(Instr.lookup t (.map (some r)) (a.eval y) ok).run P w=.ok c w:=by
   rw[<-z]
   simp[Instr.lookup,EZ,run_underlying hu,MapKept.run_getObj_map hw]
   rfl
  simp[execOp,ho,Y,this]
theorem WG {c:Go.Call}(Q:o.op=.call c)(N:c.callee=.builtin .len)(U:c.argTypes[0]? = some t)(W:P.underlying t=some (.map k e)):S5 o a P w S ρ β M vs v .lenm (c.args.toList.map a.eval):=fun u hv E=>by
 cases vs with
 | nil=>simp[readX]at E
 | cons x r =>
  cases r with
  | cons y r=>simp[readX]at E
  | nil =>
   obtain⟨c0,z,h⟩:=hv.inv1
   have Z:=Acd z
   simp only[readX,vi,Ahn,Aho]at E
   obtain⟨es,J,rfl⟩:=E
   rcases LS u h J with ⟨rfl,rfl⟩|⟨r,ents,clock,rfl,hw,hE⟩
   ·exact .val u (RepX.ofV (.m (.i _ _))) (AD Q N (fun _=>by rw[Z];rfl) (by simp[Builtin.len_,U,run_underlying W,goInt]))
   ·have Y:=All2.length hE
    refine .val u (RepX.ofV (.m (.i _ _))) (AD Q N (fun _=>by rw[Z];rfl) ?_)
    simp only[Aih]at Y
    simp[Builtin.len_,U,run_underlying W,MapKept.run_getObj_map hw,goInt,Y]
end
end Go.Mx
namespace Go.Mx
section
variable {P:Program} {w:World} {S:Nat->Prop} {ρ β:Nat->Nat} {M:Mem} {H:Hp} {o:Oper} {a:Act} {vs:List V} {v:V}
theorem RepI.cells {es:LT}{ad:Option Addr}{n cap:Nat}(h:RepI w S (.sl es) (.slice ad n cap)):n=es.length /\ ∃esz cells,Uni esz es/\RepL w S ρ H (es.flatten.map .m) cells /\
  (es≠[] -> ∃b off,ad=some ⟨b,off,none⟩/\S b /\ ∀(j:Nat) u,cells[j]? = some u->w.cell? ⟨b,off+j,none⟩=some u):=by
 cases h with
 | sl _ _ _ esz b off cs hcap hm Y ha hnn hc hr =>
  have Q:Uni esz es:=Y
  refine⟨rfl,esz,(List.range (es.length*esz)).map fun p=>cs (p / esz) (p%esz),Q,⟨by rw[AhD,List.length_range,AhD,Q.len],fun j y N=>?_⟩,fun U=>⟨b,off,(ha U).1,(ha U).2,fun j u N=>?_⟩⟩
  ·rw[AhN]at N
   obtain⟨z,W,rfl⟩:=AhW.1 N
   have E:j<es.length*esz:=by rw[<-Q.len];exact(Ahq.1 W).1
   have J:0<esz:=Nat.pos_of_ne_zero (by rintro rfl;simp at E)
   obtain⟨e,he,Z⟩:=PE J Q W
   exact⟨_,by simp[E],.m (hr _ _ _ _ he Z)⟩
  ·have E:j<es.length*esz:=by have:=(Ahq.1 N).1;simpa using this
   have J:0<esz:=Nat.pos_of_ne_zero (by rintro rfl;simp at E)
   have W:es.flatten[j]? = some (es.flatten[j]'(by rw[Q.len];exact E)):=Ahr _
   obtain⟨e,he,Z⟩:=PE J Q W
   have:=hc _ _ _ _ he Z
   rw[show j / esz*esz+j%esz=j by rw[AiU];exact Nat.div_add_mod j esz]at this
   rw[this]
   simp[E]at N
   rw[N]
theorem IB {x:V}{c:Value}{es:L0}(hok:Ok w S ρ β M)(Y:RepX w S ρ β M.H x c)(h:elems M.H x=some es):
  ∃ad cap esz cells,c=.slice ad es.length cap/\Uni esz es/\RepL w S ρ M.H es.flatten cells /\
   (es≠[] -> ∃b off,ad=some ⟨b,off,none⟩/\(∀(j:Nat) u,cells[j]? = some u->w.cell? ⟨b,off+j,none⟩=some u)/\(S b \/ ∃r,r<M.H.length/\b=ρ r/\Fs x=[r])):=by
 have imm:∀ {l:LT},RepI w S (.sl l) c -> ∃ad cap esz cells,c=.slice ad (Bn l).length cap/\Uni esz (Bn l)/\RepL w S ρ M.H (Bn l).flatten cells /\
   (Bn l≠[] -> ∃b off,ad=some ⟨b,off,none⟩/\(∀(j:Nat) u,cells[j]? = some u->w.cell? ⟨b,off+j,none⟩=some u)/\(S b \/ ∃r,r<M.H.length/\b=ρ r/\Fs x=[r])):=fun {l} hI=>by
  obtain⟨ad,cap,rfl,_⟩:=Eg hI
  obtain⟨_,esz,cells,hu,hr,hc⟩:=RepI.cells (ρ:=ρ) (H:=M.H) hI
  refine⟨ad,cap,esz,cells,by rw[immS_len],Wy hu,by rw[Me];exact hr,fun Q=>?_⟩
  obtain⟨b,off,h1,h3,h2⟩:=hc (by rintro rfl;exact Q rfl)
  exact⟨b,off,h1,h2,.inl h3⟩
 unfold elems at h
 split at h
 ·simp only[Aho]at h
  subst h
  have:=EX (RepX.toV rfl Y)
  subst this
  exact⟨none,0,0,[],rfl,fun e he=>by simp at he,.nil,fun h=>absurd rfl h⟩
 ·simp only[Aho]at h
  subst h
  exact imm (RepX.toV rfl Y).imm
 ·simp only[Aho]at h
  subst h
  exact imm (Jw (RepX.toV rfl Y))
 ·rename_i r ver esz st len lim
  simp only[Ahn,AU]at h
  obtain⟨row,N,h⟩:=h
  split at h
  ·rename_i ty esz' E base fz
   simp only[Ag,Ahs,Aid,AhL,Aho]at h
   obtain⟨⟨hbv,rfl⟩,rfl⟩:=h
   have Y:=RepX.toV rfl Y
   cases Y with|sl _ _ _ _ _ _ ty' es' base' fz' ad cap z h1 h2 h3 h4 h5 hn hb ha =>
   rw[N]at z
   simp only[Aho,Row.cs.injEq]at z
   obtain⟨rfl,_,rfl,rfl,rfl⟩:=z
   obtain⟨_,hpos,hU,_,_,cur,cap',mk,hh,_,hcs,hcap,_,hr⟩:=hok.rows r _ N
   have U:((E.drop st).take len).length=len:=by rw[AhH,Aie];omega
   have hU:Uni esz E:=hU
   have hfl:((E.drop st).take len).flatten=(E.flatten.drop (st*esz)).take (len*esz):=by
    rw[Iv (hU.drop st) len,Ix hU st]
   have hR:=(hr.drop (st*esz)).take (len*esz)
   refine⟨ad,cap,esz,_,by rw[U],(hU.drop st).take len,by rw[hfl];exact hR,fun Q=>?_⟩
   have hlp:0<len:=by rw[<-U];exact AiX.2 Q
   obtain⟨b,rfl,hA⟩:=hb hbv hlp
   have Z:∀(j:Nat) u,(((cur.toList.take (E.length*esz)).drop (st*esz)).take (len*esz))[j]? = some u->w.cell? ⟨ρ r,st*esz+j,none⟩=some u:=fun j u J=>by
    rw[AhX]at J
    split at J
    ·rw[AiS,AhX]at J
     split at J
     ·rw[cell_of_row w _ _ cur _ mk hh]
      simpa using J
     ·cases J
    ·cases J
   refine⟨b,st*esz,rfl,fun j u J=>?_,?_⟩
   rotate_left
   ·rcases hA with rfl|⟨hSb,_⟩
    ·exact .inr ⟨r,(Ahq.1 N).1,rfl,rfl⟩
    ·exact .inl hSb
   rcases hA with rfl|⟨_,Q,W⟩
   ·exact Z j u J
   ·have hlt:j<len*esz:=by
     have:=(Ahq.1 J).1
     rw[AhH]at this
     omega
    have:(st+len)*esz<=ver*esz:=Aip esz h1
    rw[Aif]at this
    rw[W _ (by omega)]
    exact Z j u J
  ·cases h
 ·cases h
theorem Gf:∀ {es:L0} {l:List Nat} {cells:List Value},Fw es=some l->RepL w S ρ H es.flatten cells->l.length=es.length/\(∀c,c∈l->c<256)/\cells=l.map fun c:Nat=>Value.int .u8 (c:Int)
 | [],l,cells,h,u=>by
  simp only[Fw,Aho]at h
  subst h
  exact⟨rfl,by simp,by simpa using u.inv_nil⟩
 | [.m (.i .u8 (.ofNat c))]::r,l,cells,h,u=>by
  simp only[Fw,Ag,Ahn,Aho]at h
  obtain⟨E,Y,z,rfl⟩:=h
  rw[Ain]at u
  obtain⟨Z,cs,rfl,U,u⟩:=u.inv_cons
  obtain⟨Q,N,rfl⟩:=Gf z u
  have:=Cc U
  subst this
  refine⟨by simp[Q],fun d J=>?_,by simp⟩
  rcases AhO.1 J with rfl|J
  ·simpa[AiL]using E
  ·exact N d J
 | e::r,l,cells,h,u=>by
  unfold Fw at h
  split at h
  ·rename_i W;cases W
  ·rename_i c r' W
   cases W
   simp only[Ag,Ahn,Aho]at h
   obtain⟨E,Y,z,rfl⟩:=h
   rw[Ain]at u
   obtain⟨Z,cs,rfl,U,u⟩:=u.inv_cons
   obtain⟨Q,N,rfl⟩:=Gf z u
   have:=Cc U
   subst this
   refine⟨by simp[Q],fun d J=>?_,by simp⟩
   rcases AhO.1 J with rfl|J
   ·simpa[AiL]using E
   ·exact N d J
  ·cases h
theorem LM {l:List Nat}(h:∀c,c∈l->c<256):(l.map UInt8.ofNat).map UInt8.toNat=l:=by
 induction l with
 | nil=>rfl
 | cons c l z =>
  have:=h c (by simp)
  simp only[AhV,z fun d u=>h d (by simp[u])]
  congr 1
  simp;omega
variable {x:Operand} {e:TypeId}
theorem AaZ {u d:TypeId}(Q:o.op=.convert u d x)(hs:P.underlying u=some (.slice e))(z:P.underlying e=some (.int .u8))(W:P.underlying d=some .string):S5 o a P w S ρ β M vs v .b2s [a.eval x]:=fun J hv he=>by
 cases hv with|cons h t1 =>
 cases t1
 simp only[readX,Ahn,Aho]at he
 obtain⟨es,U,l,hl,rfl⟩:=he
 obtain⟨ad,cap,esz,cells,Y,hu,hr,hc⟩:=IB J h U
 obtain⟨h1,Z,rfl⟩:=Gf hl hr
 have hm:=LM Z
 refine .val J (RepX.ofV (.m (.s ⟨(l.map UInt8.ofNat).toArray⟩ l (by simpa using hm)))) ?_
 cases es with
 | nil =>
  have:l=[]:=AhT (by simpa using h1)
  subst this
  cases ad with
  | none =>
   simp only[execOp,Q,Y,Sem.run_bind,convert,run_underlying hs,run_underlying W,run_underlying z,Result.andThen_ok,Conv.bytesToString,Sem.run_pure]
   rfl
  | some p =>
   have:=run_convert_bytes_back (P:=P) w u d e p cap [] hs z W (by simp)
   simp only[execOp,Q,Y,Sem.run_bind]
   simp only[Aic]at this ⊢
   rw[this]
   rfl
 | cons e0 es =>
  obtain⟨b,off,rfl,E,_⟩:=hc (by simp)
  have:=run_convert_bytes_back (P:=P) w u d e ⟨b,off,none⟩ cap (l.map UInt8.ofNat) hs z W (fun j N=>by
   rw[By]
   refine E j _ ?_
   simp only[AhD]at N
   have hlt:=Z l[j] (List.getElem_mem N)
   simp only[AhN,Ahr N,Aix,List.getElem_map]
   congr 2
   simp;omega)
  simp only[execOp,Q,Y,Sem.run_bind]
  rw[AhD,h1]at this
  rw[this]
  rfl
theorem OY {t:TypeId}{n s:Nat}{lo hi mx:Option Operand}(ho:o.op=.slice t x lo hi mx)(hu:P.underlying t=some (.array n e) \/ ∃t',P.underlying t=some (.pointer t')/\P.underlying t'=some (.array n e))(hs:BD P e=some s){x0:V} 
  (Y:Ok w S ρ β M) (h:RepX w S ρ β M.H x0 (a.eval x)) (hv:All2 (RepX w S ρ β M.H) vs ((lo.toList++hi.toList++mx.toList).map a.eval)) (N:readX M (.slcA n s lo.isSome hi.isSome mx.isSome) (x0::vs)=some v) :
  Outc w S ρ β M (.r (.slcA n s lo.isSome hi.isSome mx.isSome)) v M ((execOp a.eval o).run P w):=by
 obtain⟨i,hi',rfl⟩:=AP.1 hs
 rw[EF]at hv
 have run:∀(ad:Addr) l h m,a.eval x=.pointer (some ad)->(Instr.sliceBounds false n n (lo.map a.eval) (hi.map a.eval) (mx.map a.eval)).run P w=.ok (l,h,m) w ->
   (execOp a.eval o).run P w=.ok (.value (.slice (some (if m=l then ad else ad.add (l*i.size))) (h-l) (m-l))) w:=fun ad l h m hx hb=>by
  rcases hu with hu|⟨t',hu,hu'⟩
  ·simp only[execOp,ho,hx,Instr.sliceAt,Sem.run_bind,run_underlying hu,Result.andThen_ok,Instr.sureAddr,hb,AR hi',Sem.run_pure]
  ·simp only[execOp,ho,hx,Instr.sliceAt,Sem.run_bind,run_underlying hu,Result.andThen_ok,Instr.slice,asAddr,run_underlying hu',hb,AR hi',Sem.run_pure]
 simp only[readX]at N
 split at N
 ·rename_i cs
  simp only[Ag,Ahs,AhL,Aid,Ahn,Aho]at N
  obtain⟨⟨hlen,hn63⟩,⟨E,W⟩,hb,rfl⟩:=N
  have hI:=(RepX.toV rfl h).imm
  generalize hx:a.eval x=c at hI
  cases hI with|pt _ b off c hS hc hr =>
  obtain⟨Q,k1,k2⟩:=Ck (P:=P) (isS:=false) (c:=n) (Ahu _) rfl (by simp) (by simp) (by simp) hv hb
  have U:=run _ _ _ _ hx Q
  have hU:=Gc i.size n cs (by omega)
  have hF:(Ct i.size n cs).flatten=cs:=by rw[Fd i.size n cs (by omega),<-hlen,AhS]
  have hL:(Ct i.size n cs).length=n:=Gd ..
  have hbase:RepI w S (.sl (Ct i.size n cs)) (.slice (some ⟨b,off,none⟩) n n):=by
   have:=RepI.sl (w:=w) (S:=S) (Ct i.size n cs) (some ⟨b,off,none⟩) n i.size b off (fun i' j=>c (i'*i.size+j)) (by omega) (by unfold maxLen;omega) hU (fun _=>⟨rfl,hS⟩) ⟨_,rfl⟩
    (fun i' e j x hi hj=>hc _ x (by have:=Do hU hi hj;rwa[hF]at this)) (fun i' e j x hi hj=>hr _ x (by have:=Do hU hi hj;rwa[hF]at this))
   rw[hL]at this
   exact this
  have hcut:=fun m (hm:W<=m) (a1:m<=n)=>Ny hbase k1 k2 hm a1 hU
  have a0:(((Ct i.size n cs).drop E).take (W-E)).length=W-E:=by rw[AhH,Aie];omega
  have lsr:∀m,m=W->(hm:W<=m)->(a1:m<=n)->RepV w S ρ M.H (.ls (((Ct i.size n cs).drop E).take (W-E))) (.slice (some (if m=E then ⟨b,off,none⟩ else (⟨b,off,none⟩:Addr).add (E*i.size))) (W-E) (m-E)):=fun m hmp hm a1=>by
   subst hmp
   have hc:=hcut m hm a1
   have:=RepV.ls (w:=w) (S:=S) (ρ:=ρ) (H:=M.H) (((Ct i.size n cs).drop E).take (m-E)) (some (if m=E then ⟨b,off,none⟩ else (⟨b,off,none⟩:Addr).add (E*i.size)))
    (by rw[a0];by_cases e:m=E <;> simpa[e]using hc)
   rw[a0]at this
   exact this
  cases hmx:mx.isSome with
  | true =>
   rw[hmx]at U
   refine .val Y (RepX.ofV ?_) U
   simp only[if_true,Bool.true_or]
   exact lsr W rfl (Ahu _) (by omega)
  | false =>
   rw[hmx]at U
   refine .val Y (RepX.ofV ?_) U
   simp only[AiQ,if_false,Bool.false_or]
   cases hbq:Nat.beq W n with
   | true=>exact lsr n (AhI hbq).symm (by omega) (Ahu _)
   | false =>
    refine .m ?_
    have:=hcut n (by omega) (Ahu _)
    by_cases e:n=E <;> simpa[e]using this
 ·rename_i r ver
  simp only[Ahn,AU]at N
  obtain⟨row,J,N⟩:=N
  split at N
  ·rename_i ty esz es Z fz
   simp only[Ag,Ahs,AhL,Ahn,Aho]at N
   obtain⟨⟨⟨hez,hel⟩,hvn⟩,⟨E,W⟩,hb,rfl⟩:=N
   have hV:=RepX.toV rfl h
   generalize hx:a.eval x=c at hV
   cases hV with|pt _ _ _ _ ty' esz' es' base' fz' p u h2 hix hbb =>
   rw[J]at u
   simp only[Aho,Row.cs.injEq]at u
   obtain⟨rfl,rfl,rfl,rfl,rfl⟩:=u
   obtain⟨Q,k1,k2⟩:=Ck (P:=P) (isS:=false) (c:=n) (Ahu _) rfl (by simp) (by simp) (by simp) hv hb
   have U:=run _ _ _ _ hx Q
   obtain⟨_,_,_,_,_,cur,cap,mk,hh,_,hcs,hcap,hcm,_⟩:=Y.rows r _ J
   refine .val Y (RepX.ofV ?_) U
   rw[hez]
   refine .sl r ver esz E (W-E) _ ty es Z fz _ _ J (by omega) h2 ?_ ?_ ?_ ⟨_,rfl⟩ ?_ ?_
   ·split <;> omega
   ·split <;> omega
   ·intro z
    cases hmx:mx.isSome with
    | true=>simp
    | false =>
     rw[hmx]at z
     simp only[Bool.false_or,AhL]at z
     simp
     omega
   ·intro hbv hpos
    obtain⟨b,hp,hA⟩:=hbb hbv
    subst hp
    have hne:¬(if mx.isSome=true then W else n)=E:=by split <;> omega
    rw[Aht hne]
    exact⟨b,by simp[By],hA⟩
   ·intro hve hst z hle
    exfalso
    have hbq:Nat.beq W n=true:=by rw[AhL];omega
    simp[hbq]at z
  ·cases N
 ·rename_i r ver off
  simp only[Ahn,AU]at N
  obtain⟨row,J,N⟩:=N
  split at N
  ·rename_i ty esz es Z fz
   simp only[Ag,Ahs,AhL,Aid,Ahn,Aho]at N
   obtain⟨⟨⟨⟨hez,he1⟩,hel⟩,hvn⟩,⟨E,W⟩,hb,rfl⟩:=N
   have hV:=RepX.toV rfl h
   generalize hx:a.eval x=c at hV
   cases hV with|pt _ _ _ _ ty' esz' es' base' fz' p u h2 hix hbb =>
   rw[J]at u
   simp only[Aho,Row.cs.injEq]at u
   obtain⟨rfl,rfl,rfl,rfl,rfl⟩:=u
   obtain⟨Q,k1,k2⟩:=Ck (P:=P) (isS:=false) (c:=n) (Ahu _) rfl (by simp) (by simp) (by simp) hv hb
   have U:=run _ _ _ _ hx Q
   obtain⟨_,_,_,_,_,cur,cap,mk,hh,_,hcs,hcap,hcm,_⟩:=Y.rows r _ J
   refine .val Y (RepX.ofV ?_) U
   rw[hez]
   refine .sl r ver esz (off+1+E) (W-E) _ ty es Z fz _ _ J (by omega) h2 ?_ ?_ ?_ ⟨_,rfl⟩ ?_ ?_
   ·split <;> omega
   ·have h1:es.length<=es.length*esz:=Nat.le_mul_of_pos_right _ (by omega)
    have h3:n<=maxLen:=by omega
    split <;> omega
   ·intro z
    cases hmx:mx.isSome with
    | true=>simp
    | false =>
     rw[hmx]at z
     simp only[Bool.false_or,AhL]at z
     simp
     omega
   ·intro hbv hpos
    obtain⟨b,hp,hA⟩:=hbb hbv
    subst hp
    have hne:¬(if mx.isSome=true then W else n)=E:=by split <;> omega
    rw[Aht hne]
    refine⟨b,?_,hA⟩
    have e1:esz=1:=by omega
    have e2:i.size=1:=by omega
    rw[By,e1]
    exact AiO (fun q=>some (Addr.mk b q none)) (by omega)
   ·intro hve hst z hle
    omega
  ·cases N
 ·cases N
end
end Go.Mx
namespace Go.Mx
section
variable {P:Program} {w:World} {S:Nat->Prop} {ρ β:Nat->Nat} {M:Mem} {H:Hp}
def InN (R:Nat->Prop):Nat->V->Prop
 | 0,_=>True
 | n+1,v=>match v with
  | .sl r _ _ _ _ _=>R r
  | .pt r _ _ _=>R r
  | .mp r=>R r
  | .fn _ cap=>∀x,x∈cap->InN R n x
  | .ag cs=>∀x,x∈cs->InN R n x
  | .tu cs=>∀x,x∈cs->InN R n x
  | _=>True
def Sp (R:Nat->Prop)(H:Hp):Prop:=∀r row,R r->H[r]? = some row->match row with
 | .cs _ _ es _ _=>∀e,e∈es -> ∀x,x∈e -> ∀n,InN R n x
 | .mp es _=>∀p,p∈es -> ∀n,InN R n p.2
 | .lp _ _ _ _ _ _=>True
def Sof (S:Nat->Prop)(ρ:Nat->Nat)(H:Hp)(R:Nat->Prop):Nat->Prop:=fun b=>S b \/ ∃r,R r/\r<H.length/\b=ρ r
theorem optMap_get {α β:Type}{f:α->Option β}:∀ {l:List α} {m:List β},Ah f l=some m->m.length=l.length /\ ∀(j:Nat) y,m[j]? = some y -> ∃x,l[j]? = some x/\f x=some y
 | [],m,h=>by simp[Ah]at h;subst h;simp
 | x::l,m,h=>by
  simp only[Ah,Ahn,Aho]at h
  obtain⟨y,E,Q,hl,rfl⟩:=h
  obtain⟨N,J⟩:=optMap_get hl
  refine⟨by simp[N],fun j z u=>?_⟩
  cases j with
  | zero=>simp at u;subst u;exact⟨x,rfl,E⟩
  | succ j=>simpa using J j z (by simpa using u)
theorem FE {α β:Type}{f:α->Option β}:∀ {es:List (List α)} {l:List (List β)},Ah (fun e=>Ah f e) es=some l->Ah f es.flatten=some l.flatten
 | [],l,h=>by simp[Ah]at h;subst h;rfl
 | e::es,l,h=>by
  simp only[Ah,Ahn,Aho]at h
  obtain⟨y,W,Z,hl,rfl⟩:=h
  have Y:=FE hl
  have app:∀(a:List α) (b:List α) (y z:List β),Ah f a=some y->Ah f b=some z->Ah f (a++b)=some (y++z):=by
   intro a
   induction a with
   | nil=>intro b y z u J;simp[Ah]at u;subst u;simpa using J
   | cons c a Q =>
    intro b y z u J
    simp only[Ah,Ahn,Aho]at u
    obtain⟨c',E,U,N,rfl⟩:=u
    simp[Ah,E,Q b U z N J]
  exact app _ _ _ _ W Y
variable {α:Type}
theorem Jv {β:Type}{f:α->Option β}{n:Nat}{es:List (List α)}{l:List (List β)}(h:Ah (fun e=>Ah f e) es=some l)(u:Uni n es):Uni n l:=fun e E=>by
 obtain⟨j,z,rfl⟩:=List.getElem_of_mem E
 obtain⟨x,N,J⟩:=(optMap_get h).2 j _ (Ahr z)
 rw[(optMap_get J).1]
 exact u.get N
theorem FP {R:Nat->Prop}(a1:Ok w S ρ β M)(a3:Sp R M.H):∀(n:Nat) (v:V) (c:Value) (i:I),view n M.H v=some i->InN R n v->RepV w S ρ M.H v c->RepI w (Sof S ρ M.H R) i c
 | 0,v,c,i,h,_,_=>by simp[view]at h
 | n+1,v,c,i,h,hin,hv=>by
  have toI:∀ {x:I} {c:Value},RepI w S x c->RepI w (Sof S ρ M.H R) x c:=fun h=>h.mono (fun _ _=>rfl) (fun _ h=>.inl h)
  have list:∀ {xs:List V} {l:List I} {cs:List Value},Ah (view n M.H) xs=some l->(∀x,x∈xs->InN R n x)->RepL w S ρ M.H xs cs->LI w (Sof S ρ M.H R) l cs:=fun {xs l cs} Q h2 h3=>by
   obtain⟨g1,g2⟩:=optMap_get Q
   refine⟨by rw[AhD,g1];exact h3.1,fun j y E=>?_⟩
   rw[AhN]at E
   obtain⟨z,hz,rfl⟩:=AhW.1 E
   obtain⟨x,hx,hf⟩:=g2 j z hz
   obtain⟨c,hc,hr⟩:=h3.2 j x hx
   exact⟨c,hc,.m (FP a1 a3 n x c z hf (h2 x (Ahw hx)) hr)⟩
  unfold view at h
  cases v with
  | m x=>simp only[Aho]at h;subst h;exact toI hv.imm
  | un=>cases h
  | fa d off=>cases h
  | tu vs=>cases h
  | yl r=>cases h
  | ls es=>simp only[Aho]at h;subst h;exact toI (Jw hv)
  | sl r ver esz st len lim =>
   simp only[Ahn,Aho]at h
   obtain⟨es,hes,l,hl,rfl⟩:=h
   obtain⟨ad,cap,esz1,cells,rfl,hu1,hr,hc⟩:=IB (β:=β) a1 (RepX.ofV hv) hes
   have hR:R r:=hin
   have hrl:∃row,M.H[r]? = some row:=by
    cases hv with|sl _ _ _ _ _ _ ty' es' base' fz' _ _ u Q h2 h3 h4 h5 hn hb ha=>exact⟨_,u⟩
   obtain⟨row,J⟩:=hrl
   have hcap:es.length<=cap/\cap<=maxLen:=by
    cases hv with|sl _ _ _ _ _ _ ty' es' base' fz' _ _ u Q h2 h3 h4 h5 hn hb ha=>exact⟨h3,h4⟩
   have a2:∀x,x∈es.flatten->InN R n x:=fun x hx=>by
    simp only[elems,Ahn,AU]at hes
    obtain⟨row',u,Z⟩:=hes
    split at Z
    ·simp only[Ag,Aho]at Z
     obtain⟨_,rfl⟩:=Z
     obtain⟨e,he,hxe⟩:=List.mem_flatten.1 hx
     exact a3 r _ hR u e (List.mem_of_mem_drop (Aiz he)) x hxe n
    ·cases Z
   have hli:=list (FE hl) a2 hr
   have hul:=Jv hl hu1
   have hll:=(optMap_get hl).1
   by_cases hne:es=[]
   ·subst hne
    have:l=[]:=AhT (by simpa using hll)
    subst this
    exact .sl [] ad cap 0 0 0 (fun _ _=>undef) hcap.1 hcap.2 (by simp) (by simp) (by cases hv with|sl _ _ _ _ _ _ ty' es' base' fz' _ _ u Q h2 h3 h4 h5 hn hb ha=>exact hn) (by simp) (by simp)
   ·obtain⟨b,off,rfl,W,hb⟩:=hc hne
    obtain⟨_,cf,Y,U⟩:=RepL.toI hli
    rw[<-hll]
    refine .sl l _ cap esz1 b off (fun i j=>cf (i*esz1+j)) (by omega) hcap.2 hul (fun _=>⟨rfl,?_⟩) ⟨_,rfl⟩ (fun i e j x hi E=>?_) (fun i e j x hi E=>U _ _ (Do hul hi E))
    ·rcases hb with hb|⟨r',hr',rfl,he⟩
     ·exact .inl hb
     ·simp only[Fs,List.cons.injEq,and_true]at he
      subst he
      exact .inr ⟨_,hR,hr',rfl⟩
    ·exact W _ _ (Y _ _ (Do hul hi E))
  | pt r ver ix off =>
   simp only[Ahn,AU]at h
   obtain⟨row,J,h⟩:=h
   split at h
   ·rename_i ty esz es0 base fz
    simp only[Ahn,Aho]at h
    obtain⟨cs,hcs,l,hl,rfl⟩:=h
    have hcs':readA M (esz-off) (.pt r ver ix off)=some cs:=hcs
    obtain⟨b,o,cells,rfl,_,hr,W,hb⟩:=FZ a1 (RepX.ofV (β:=β) hv) hcs'
    have hR:R r:=hin
    have a2:∀x,x∈cs->InN R n x:=fun x hx=>by
     simp only[readA,AU,J,Ahz,Ag,Ahs]at hcs
     obtain⟨_,_,hU,_⟩:=a1.rows r _ J
     obtain⟨he,_⟩:=Pj hU hcs.2
     rw[he]at hx
     obtain⟨e,he,hxe⟩:=List.mem_flatten.1 (List.mem_of_mem_drop (Aiz hx))
     exact a3 r _ hR J e he x hxe n
    obtain⟨_,cf,Y,U⟩:=RepL.toI (list hl a2 hr)
    refine .pt l b o cf ?_ (fun j x E=>W _ _ (Y _ _ E)) (fun j x E=>U _ _ E)
    rcases hb rfl with hb|⟨r',hr',rfl,he⟩
    ·exact .inl hb
    ·simp only[Fs,List.cons.injEq,and_true]at he
     subst he
     exact .inr ⟨_,hR,hr',rfl⟩
   ·cases h
  | mp r =>
   simp only[Ahn,AU]at h
   obtain⟨row,J,h⟩:=h
   split at h
   ·rename_i es0 fz
    simp only[Ahn,Aho]at h
    obtain⟨l,hl,rfl⟩:=h
    have hR:R r:=hin
    cases hv with|mp _ es' fz' u =>
    obtain⟨_,_,ents,clock,hh,⟨hlen,_⟩,hE⟩:=a1.rows r _ J
    obtain⟨g1,g2⟩:=optMap_get hl
    have a0:∀(j:Nat) k x,l[j]? = some [k,x] -> ∃N,ents[j]? = some N/\RepI w (Sof S ρ M.H R) k N.key/\RepI w (Sof S ρ M.H R) x N.val:=fun j k x E=>by
     obtain⟨p,hp,hf⟩:=g2 j _ E
     obtain⟨k0,x0⟩:=p
     simp only[Ahn,Aho,List.cons.injEq,and_true]at hf
     obtain⟨y,hy,rfl,rfl⟩:=hf
     obtain⟨N,Q,h2,h3⟩:=hE j _ _ hp
     exact⟨N,Q,toI h2,FP a1 a3 n x0 _ _ hy (a3 r _ hR J (k0,x0) (Ahw hp) n) h3⟩
    refine .mp l (ρ r) ents clock (fun j=>((ents[j]?).map (·.key)).getD undef) (fun j=>((ents[j]?).map (·.val)).getD undef) (.inr ⟨r,hR,(Ahq.1 J).1,rfl⟩) hh (by omega) (fun j e E=>?_) (fun j k x E=>?_) (fun j k x E=>?_) (fun j k x E=>?_) (fun j k x E=>?_)
    ·obtain⟨p,_,hf⟩:=g2 j _ E
     simp only[Ahn,Aho]at hf
     obtain⟨y,_,rfl⟩:=hf
     exact⟨_,_,rfl⟩
    ·obtain⟨N,Q,_⟩:=a0 j k x E;simp[Q]
    ·obtain⟨N,Q,_⟩:=a0 j k x E;simp[Q]
    ·obtain⟨N,Q,h2,_⟩:=a0 j k x E;simpa[Q]using h2
    ·obtain⟨N,Q,_,h2⟩:=a0 j k x E;simpa[Q]using h2
   ·cases h
  | fn f cap =>
   simp only[Ahn,Aho]at h
   obtain⟨l,hl,rfl⟩:=h
   obtain⟨hny,cs,rfl,hr⟩:=hv.fnL
   obtain⟨Q,cf,Y,U⟩:=RepL.toI (list hl hin hr)
   exact .fn f hny l cs (by simpa using Q) cf (fun j x E=>by simpa using Y j x E) U
  | ag xs =>
   simp only[Ahn,Aho]at h
   obtain⟨l,hl,rfl⟩:=h
   obtain⟨cs,rfl,hr⟩:=hv.agL
   obtain⟨Q,cf,Y,U⟩:=RepL.toI (list hl hin hr)
   exact .ag l cs (by simpa using Q) cf (fun j x E=>by simpa using Y j x E) U
def Ku:Row->Prop
 | .cs _ _ es _ _=>∀e,e∈es -> ∀x,x∈e->isM x=true
 | .mp es _=>∀p,p∈es->isM p.2=true
 | .lp _ _ _ _ _ _=>True
variable {row row':Row}
theorem Fu (h:AV row=some row'):Ku row/\Ku row':=by
 cases row with
 | cs ty esz es z U =>
  simp only[AV,Ag,Aho]at h
  obtain⟨u,rfl⟩:=h
  have:∀e,e∈es -> ∀x,x∈e->isM x=true:=fun e J x Q=>AhE.1 (AhE.1 u e J) x Q
  exact⟨this,this⟩
 | mp es U =>
  simp only[AV,Ag,Aho]at h
  obtain⟨u,rfl⟩:=h
  have:∀p,p∈es->isM p.2=true:=fun p N=>AhE.1 u p N
  exact⟨this,this⟩
 | lp st W E ps Y Z=>simp[AV]at h
theorem SY {l u:List α}{i:Nat}{x:α}(h:AN l i x=some u):i<l.length/\u=l.set i x:=Bw h
theorem RD (W:Ok w S ρ β M){r:Nat}(J:M.H[r]? = some row)(h:AV row=some row'):
  Ok w (fun b=>S b\/b=ρ r) ρ β { M with H:=M.H.set r row' }/\Stp w S ρ β M w (fun b=>S b\/b=ρ r) ρ (M.H.set r row'):=by
 have Q:(fun k=>if k=r then ρ r else ρ k)=ρ:=by
  funext k
  by_cases c:k=r
  ·rw[Ahv c,c]
  ·rw[Aht c]
 have N:=Ok.setRow (w':=w) (S':=fun b=>S b\/b=ρ r) (g:=ρ r) (row':=row') W J ⟨⟨rfl,rfl,rfl,Ahu _,fun _ _ _=>rfl⟩,fun _=>Ahu _⟩ (.inl rfl) (fun b h=>.inl h) (fun b h=>h) (fun _ _=>rfl)
  (fun ty esz es z fz e=>by
   subst e
   simp only[AV,Ag,Aho]at h
   obtain⟨_,rfl⟩:=h
   exact⟨es,z,true,rfl,Ahu _,Ahu _,fun b ver _ _ hA=>hA.same (fun _ _=>rfl) (fun _ h=>.inl h) rfl,fun _=>⟨rfl,fun cur mk hh=>⟨cur,mk,hh,rfl⟩⟩⟩)
  (fun es fz e=>by
   subst e
   simp only[AV,Ag,Aho]at h
   obtain⟨_,rfl⟩:=h
   exact⟨rfl,es,true,rfl⟩)
  (fun u=>by
   have hR:=W.rows r row J
   rw[Q]at u ⊢
   cases row with
   | cs ty esz es z fz =>
    simp only[AV,Ag,Aho]at h
    obtain⟨_,rfl⟩:=h
    obtain⟨h1,h2,h3,h4,h5,cur,cap,mk,Y,h7,h8,h9,Z,h11⟩:=hR
    exact⟨h1,h2,h3,fun _=>.inr rfl,fun e=>(by cases e),cur,cap,mk,Y,fun e=>(by cases e),h8,h9,Z,h11.mono u⟩
   | mp es fz =>
    simp only[AV,Ag,Aho]at h
    obtain⟨_,rfl⟩:=h
    obtain⟨h4,h5,ents,clock,Y,h7,h8⟩:=hR
    refine⟨fun _=>.inr rfl,fun e=>(by cases e),ents,clock,Y,h7,fun j k x hj=>?_⟩
    obtain⟨ent,U,hk,hx⟩:=h8 j k x hj
    exact⟨ent,U,hk.mono u.hw u.hS,hx.mono u⟩
   | lp st pd E ps ca cb=>simp[AV]at h)
  (fun st pd E ps ca cb e=>by subst e;simp[AV]at h)
 rw[Q]at N
 exact N
theorem Stp.transW {S' u:Nat->Prop}{H' z:Hp}{J:Nat->Nat}{B':LE}(h:Stp w S ρ β M w S' ρ H')(k:Stp w S' ρ J ⟨B',H'⟩ w u ρ z)(hl:H'.length=M.H.length)(N:∀b,u b->S' b \/ ∃r,r<H'.length/\b=ρ r)(Q:z.length=H'.length):Stp w S ρ β M w u ρ z where
 vals v c hv:=k.vals v c (h.vals v c hv)
 stab b E:=k.stab b (h.stab b E)
 heap _ _:=rfl
 keep _ _ _ _:=rfl
 news b E:=by
  rcases N b E with E|⟨r,U,e⟩
  ·exact h.news b E
  ·exact .inr (.inr ⟨r,by omega,e⟩)
 rown r U:=.inl ⟨r,by omega,rfl⟩
 size:=Ahu _
 os:=rfl
 tape:=rfl
 output:=rfl
 drawn:=fun _=>Ahu _
variable {R:Nat->Prop}
theorem AdM (u:∀r,¬R r):Sof S ρ H R=S:=by
 funext b
 apply propext
 constructor
 ·rintro (h|⟨r,h,_⟩)
  ·exact h
  ·exact absurd h (u r)
 ·exact .inl
theorem GL:∀(rs:List Nat) {S:Nat->Prop} {M:Mem} {H':Hp},Ok w S ρ β M->AY rs M.H=some H' ->
  Ok w (Sof S ρ M.H (· ∈ rs)) ρ β { M with H:=H' }/\Stp w S ρ β M w (Sof S ρ M.H (· ∈ rs)) ρ H'/\H'.length=M.H.length /\ ∀r,r∈rs -> ∃row,M.H[r]? = some row/\Ku row
 | [],S,M,H',hok,h=>by
  simp only[AY,Aho]at h
  subst h
  rw[AdM (by simp)]
  exact⟨hok,Stp.refl _ _ _ _ _,rfl,by simp⟩
 | r::rs,S,M,H',hok,h=>by
  simp only[AY,Ahn,AU]at h
  obtain⟨row,z,row',u,H1,hH1,h⟩:=h
  obtain⟨hrl,rfl⟩:=SY hH1
  obtain⟨a0,Y⟩:=RD hok z u
  obtain⟨E,J,N,hf2⟩:=GL rs a0 h
  have a1:Sof (fun b=>S b\/b=ρ r) ρ (M.H.set r row') (· ∈ rs)=Sof S ρ M.H (· ∈ r::rs):=by
   funext b
   apply propext
   simp only[Sof,Aim,AhO]
   constructor
   ·rintro ((h|h)|⟨k,W,Q,U⟩)
    ·exact .inl h
    ·exact .inr ⟨r,.inl rfl,hrl,h⟩
    ·exact .inr ⟨k,.inr W,Q,U⟩
   ·rintro (h|⟨k,rfl|W,Q,U⟩)
    ·exact .inl (.inl h)
    ·exact .inl (.inr U)
    ·exact .inr ⟨k,W,Q,U⟩
  simp only at E J N
  rw[a1]at E J
  simp only[Aim]at N
  refine⟨E,Stp.transW Y J (by simp) (fun b hb=>?_) (by simpa using N),N,fun k hk=>?_⟩
  ·rw[<-a1]at hb
   rcases hb with hb|⟨k,_,Q,U⟩
   ·exact .inl hb
   ·exact .inr ⟨k,Q,U⟩
  ·rcases AhO.1 hk with rfl|hk
   ·exact⟨row,z,(Fu u).1⟩
   ·obtain⟨Z,W,Q⟩:=hf2 k hk
    by_cases c:k=r
    ·subst c
     exact⟨row,z,(Fu u).1⟩
    ·simp only[Ait (AiD c)]at W
     exact⟨Z,W,Q⟩
theorem Ma {x:V}(h:isM x=true)(n:Nat):InN R n x:=by
 cases n with
 | zero=>exact Aii
 | succ n=>cases x <;> first|exact Aii|(simp[isM]at h)
theorem Jr (h:∀r,R r -> ∃row,H[r]? = some row/\Ku row):Sp R H:=fun r row Y u=>by
 obtain⟨row',J,z⟩:=h r Y
 rw[u]at J
 cases J
 cases row with
 | cs ty esz es N Z=>exact fun e Q x W n=>Ma (z e Q x W) n
 | mp es Z=>exact fun p U n=>Ma (z p U) n
 | lp st pd E ps ca cb=>exact Aii
theorem Iq:∀(n:Nat) (v:V),InN (fun _=>True) n v
 | 0,_=>Aii
 | n+1,v=>by cases v <;> first|exact Aii|exact fun x _=>Iq n x
theorem Jq:Sp (fun _=>True) H:=fun r row _ _=>by
 cases row with
 | cs ty esz es u z=>exact fun e _ x _ n=>Iq n x
 | mp es z=>exact fun p _ n=>Iq n p.2
 | lp st J E ps N Q=>exact Aii
theorem Gx {x:V}(h:BN x=true){rs:List Nat}(E:∀r,r∈Dv x->r∈rs)(n:Nat):InN (· ∈ rs) n x:=by
 have one:∀(x:V) (n:Nat),CY x=true->(∀r,r∈Fs x->r∈rs)->InN (· ∈ rs) n x:=fun x n h E=>by
  cases n with
  | zero=>exact Aii
  | succ n=>cases x <;> first|exact Aii|(simp[CY]at h;done)|exact E _ (by simp[Fs])
 cases n with
 | zero=>exact Aii
 | succ n =>
  cases x with
  | fn f cap=>exact fun y z=>one y n (AhE.1 h y z) fun r u=>E r (List.mem_flatMap.2 ⟨y,z,u⟩)
  | ag cs=>exact fun y z=>one y n (AhE.1 h y z) fun r u=>E r (List.mem_flatMap.2 ⟨y,z,u⟩)
  | _=>exact one _ (n+1) h E
end
end Go.Mx
namespace Go.Mx
section
variable {P:Program} {w:World} {S:Nat->Prop} {ρ β:Nat->Nat} {M M':Mem} {H:Hp} {o:Oper} {a:Act} {vs:List V} {v:V} {call:Bt}
theorem EV (w:World)(t:TypeId)(x:Value):(newVar t x).run P w=.ok ⟨w.heap.size,0,none⟩ (w.alloc (.cells x.cells t)):=rfl
variable {t:TypeId} {d:Nat} {cs:List V} {op:OL}
theorem TY {x:Value}(U:dof (.l op)=some d)(u:Ok w S ρ β M)(W:RepL w S ρ M.H cs x.cells.toList)(E:(execOp a.eval o).run P w=.ok (.value (.pointer (some ⟨w.heap.size,0,none⟩))) (w.alloc (.cells x.cells t))):
  Outc w S ρ β M (.l op) (.fa d 0) { M with B:=Ep M.B d cs } ((execOp a.eval o).run P w):=by
 have Q:¬S w.heap.size:=fun h=>by have:=u.lt _ h;omega
 obtain⟨z,N⟩:=Ok.newBox (w':=w.alloc (.cells x.cells t)) (S':=S) (d:=d) (g:=w.heap.size) u (Gw.alloc w _ none) (fun _ h=>h) (fun b h=>.inl h) (fun b h=>by have:=u.lt b h;simp;omega)
  (Ahu _) Q (heap_alloc_new w _) W
 refine⟨_,.pointer (some ⟨w.heap.size,0,none⟩),_,_,_,_,E,.inl rfl,z,N,?_,fun k J=>?_,fun k J=>?_⟩
 ·simp[RepX]
 ·rw[U]at J
  rw[Aht (fun e=>J (by rw[e]))]
 ·by_cases c:k=d
  ·exact .inr (by rw[Ahv c];exact Ahu _)
  ·refine .inl ⟨k,?_,Aht c⟩
   simp only[AM,Aht c]at J
   exact J
variable {zs:List V}
theorem Abb (Y:o.op=.alloc t)(Q:Dw P t=some zs)(N:Ok w S ρ β M)(E:An call M (.alp d zs) vs=some (v,M')):
  Outc w S ρ β M (.l (.alp d zs)) v M' ((execOp a.eval o).run P w):=by
 obtain⟨i,z,W,u,U,Z,J⟩:=CG Q
 cases vs with
 | cons x r=>simp[An]at E
 | nil =>
  simp only[An,Aho,Ahp]at E
  obtain⟨rfl,rfl⟩:=E
  exact TY (t:=t) rfl N (J w S ρ M.H) (by simp[execOp,Y,Instr.alloc,Br W u,EV])
abbrev S6 (o:Oper)(a:Act)(P:Program)(w:World)(S:Nat->Prop)(ρ β:Nat->Nat)(M:Mem)(vs:List V)(v:V)(M':Mem)(call:Bt)(q:OL)(es:List Value):Prop:=Ok w S ρ β M->All2 (RepX w S ρ β M.H) vs es->An call M q vs=some (v,M')->Outc w S ρ β M (.l q) v M' ((execOp a.eval o).run P w)
variable {x:Operand}
theorem AaW {s:Nat}(Q:o.op=.box t x):S6 o a P w S ρ β M vs v M' call (.bxp d s) [a.eval x]:=fun z J E=>by
 cases J with|cons h N =>
 cases N
 simp only[An,Ahn,Ag,Aho,Ahp]at E
 obtain⟨cs,u,_,rfl,rfl⟩:=E
 exact TY (t:=t) rfl z (RepX.cells h u) (by simp[execOp,Q,Instr.box,EV])
variable {ty esz cap:Nat} {cur:Array Value} {c:Value} {w':World}
theorem WX {es:L0}{val:V}{mk:Nat×Nat}(u:Ok w S ρ β M)(W:0<esz)(hu:Uni esz es)(hg:Gw w w' none)(hsz:w'.heap.size=w.heap.size+1)(Y:w'.heap[w.heap.size]? = some (.cells cur ty mk)) 
  (z:es.length<=cap) (Z:cap<=maxLen) (a0:cur.size=cap*esz) (hr:RepL w S ρ M.H es.flatten (cur.toList.take (es.length*esz)))
  (E:(execOp a.eval o).run P w=.ok (.value c) w')
  (N:∀J,J M.H.length=w.heap.size->RepV w' S J (M.H++[.cs ty esz es 0 false]) val c) (U:Win cur.size mk) :
  Outc w S ρ β M (.l op) val { M with H:=M.H++[.cs ty esz es 0 false] } ((execOp a.eval o).run P w):=by
 have hS:¬S w.heap.size:=fun h=>by have:=u.lt _ h;omega
 obtain⟨Q,a1⟩:=Ok.newRow (w':=w') (S':=S) (g:=w.heap.size) (row:=.cs ty esz es 0 false) u hg (fun _ h=>h) (fun b h=>.inl h) (fun b h=>by have:=u.lt b h;omega) (Ahu _)
  (fun a2=>⟨Ahy _,W,hu,fun e=>(by cases e),fun _=>by simpa using hS,cur,cap,mk,by simpa using Y,fun _=>U,a0,z,Z,hr.mono a2⟩)
 exact⟨_,c,_,_,_,_,E,.inl rfl,Q,a1,RepX.ofV (N _ (by simp)),fun _ _=>rfl,fun k hk=>.inl ⟨k,hk,rfl⟩⟩
theorem ND {es:L0}{val:V}(W:Ok w S ρ β M)(N:0<esz)(hu:Uni esz es)(hg:Gw w w' none)(Y:w'.heap.size=w.heap.size+1)(Q:w'.heap[w.heap.size]? = some (.cells cur ty (0,0))) 
  (z:es.length<=cap) (Z:cap<=maxLen) (U:cur.size=cap*esz) (hr:RepL w S ρ M.H es.flatten (cur.toList.take (es.length*esz)))
  (E:(execOp a.eval o).run P w=.ok (.value c) w')
  (u:∀J,J M.H.length=w.heap.size->RepV w' S J (M.H++[.cs ty esz es 0 false]) val c) :
  Outc w S ρ β M (.l op) val { M with H:=M.H++[.cs ty esz es 0 false] } ((execOp a.eval o).run P w) :=
 WX W N hu hg Y Q z Z U hr E u (.inl rfl)
theorem Kj (H:Hp)(row:Row):(H++[row])[H.length]? = some row:=by simp
variable {n:Nat}
theorem Ul {x:Value}(z:Ok w S ρ β M)(N:RepL w S ρ M.H cs x.cells.toList)(Z:cs.length=n*esz)(U:1<=esz)(h3:1<=n)(h4:n<=9223372036854775807) 
  (u:(execOp a.eval o).run P w=.ok (.value (.pointer (some ⟨w.heap.size,0,none⟩))) (w.alloc (.cells x.cells t))) :
  Outc w S ρ β M (.l op) (.pt M.H.length n 0 0) { M with H:=M.H++[.cs t esz (Ct esz n cs) 0 false] } ((execOp a.eval o).run P w):=by
 have Q:=Gd esz n cs
 have E:=N.1
 have Y:(Ct esz n cs).flatten=cs:=by rw[Fd esz n cs (by omega),<-Z,AhS]
 refine ND (cap:=n) z U (Gc esz n cs (by omega)) (Gw.alloc w _ none) (by simp) (heap_alloc_new w _) (by omega) (by unfold maxLen;omega) (by simp at E;omega)
  (by rw[Y,Q,AhJ (by omega)];exact N) u (fun W J=>?_)
 refine .pt M.H.length n 0 0 t esz (Ct esz n cs) 0 false _ (Kj _ _) (by omega) (by omega) (fun _=>⟨w.heap.size,by simp,.inl J.symm⟩)
theorem Aba (ho:o.op=.alloc t)(Q:Dw P t=some zs)(N:Ok w S ρ β M)(E:An call M (.als t esz n zs) vs=some (v,M')):
  Outc w S ρ β M (.l (.als t esz n zs)) v M' ((execOp a.eval o).run P w):=by
 obtain⟨i,z,W,u,U,hz3,J⟩:=CG Q
 cases vs with
 | cons x r=>simp[An]at E
 | nil =>
  simp only[An,Ag,Ahs,AhL,Aid,Aho,Ahp]at E
  obtain⟨⟨⟨⟨h1,Z⟩,h3⟩,Y⟩,rfl,rfl⟩:=E
  exact Ul N (J w S ρ M.H) h1 Z h3 Y (by simp[execOp,ho,Instr.alloc,Br W u,EV])
theorem AaV (Y:o.op=.box t x):S6 o a P w S ρ β M vs v M' call (.bxs t esz n) [a.eval x]:=fun z J E=>by
 cases J with|cons h W =>
 cases W
 simp only[An,Ahn,Ag,Ahs,AhL,Aid,Aho,Ahp]at E
 obtain⟨cs,u,⟨⟨⟨Z,Q⟩,U⟩,N⟩,rfl,rfl⟩:=E
 exact Ul z (RepX.cells h u) Z Q U N (by simp[execOp,Y,Instr.box,EV])
variable {e:TypeId}
theorem AaI {k:TypeId}{r:Option Operand}(U:o.op=.makeMap t r)(hu:P.underlying t=some (.map k e)):S6 o a P w S ρ β M vs v M' call .mkm (r.toList.map a.eval):=fun z W E=>by
 have Y:¬S w.heap.size:=fun h=>by have:=z.lt _ h;omega
 have u:(execOp a.eval o).run P w=.ok (.value (.map (some w.heap.size))) (w.alloc (.map #[] 0))->Outc w S ρ β M (.l .mkm) (.mp M.H.length) { M with H:=M.H++[.mp [] false] } ((execOp a.eval o).run P w):=fun J=>by
  obtain⟨N,Q⟩:=Ok.newRow (w':=w.alloc (.map #[] 0)) (S':=S) (g:=w.heap.size) (row:=.mp [] false) z (Gw.alloc w _ none) (fun _ h=>h) (fun b h=>.inl h) (fun b h=>by have:=z.lt b h;simp;omega) (Ahu _)
   (fun hto=>⟨fun e=>(by cases e),fun _=>by simpa using Y,#[],0,by simpa using heap_alloc_new w _,⟨rfl,fun _ h=>(by simp at h),by simp⟩,by simp⟩)
  refine⟨_,_,_,_,_,_,J,.inl rfl,N,Q,RepX.ofV ?_,fun _ _=>rfl,fun k hk=>.inl ⟨k,hk,rfl⟩⟩
  have:=RepV.mp (w:=w.alloc (.map #[] 0)) (S:=S) (ρ:=fun r=>if r=M.H.length then w.heap.size else ρ r) (H:=M.H++[.mp [] false]) M.H.length [] false (Kj _ _)
  simpa using this
 cases r with
 | none =>
  cases W
  simp only[An,Aho,Ahp]at E
  obtain⟨rfl,rfl⟩:=E
  exact u (by simp[execOp,U,Instr.makeMap])
 | some x =>
  obtain⟨c,hc,h⟩:∃c,vs=[c]/\RepX w S ρ β M.H c (a.eval x):=by
   cases W with|cons h t=>cases t;exact⟨_,rfl,h⟩
  subst hc
  simp only[An]at E
  split at E
  ·simp only[Aho,Ahp]at E
   obtain⟨rfl,rfl⟩:=E
   have Z:=Cc (RepX.toV rfl h)
   exact u (by simp[execOp,U,Instr.makeMap,run_underlying hu,Z,asInt,asIntOf])
  ·cases E
theorem AaH {bytes:Nat}{y:Operand}(ho:o.op=.makeSlice t x y)(hu:P.underlying t=some (.slice e))(hz:Dw P e=some zs)(hs:BD P e=some esz)(hb:JJ P e=some bytes):S6 o a P w S ρ β M vs v M' call (.mks e esz zs bytes) [a.eval x,a.eval y]:=fun a3 hv Z=>by
 cases hv with|cons h t1 =>
 cases t1 with|cons h1 t2 =>
 cases t2
 obtain⟨i,z,hi,a0,Q,a2,a5⟩:=CG hz
 obtain⟨i1,Y,rfl⟩:=AP.1 hs
 obtain⟨i2,U,rfl⟩:=IG.1 hb
 rw[hi]at Y U
 cases Y;cases U
 simp only[An]at Z
 split at Z
 ·rename_i c
  simp only[Ahn,Ag,Ahs,AhL,Aid,Aho,Ahp]at Z
  obtain⟨n,hn,⟨⟨⟨g1,g2⟩,g3⟩,g4⟩,rfl,rfl⟩:=Z
  obtain⟨k,hx,J⟩:=DH h hn
  have hy:=Cc (RepX.toV rfl h1)
  have E:=run_make (P:=P) w t e i z hu hi a0 k .i64 (n:Int) (c:Int) (by omega) (by omega) (by
   have g1':i.bytes*c<=281474976710656:=by rw[AiU];exact g1
   have:((i.bytes*c:Nat):Int)<=281474976710656:=by omega
   rwa[Int.natCast_mul]at this) (by omega)
  simp only[Int.toNat_natCast]at E
  have W:Uni i.size (List.replicate n zs):=Uni.replicate a2
  have a4:n*i.size<=c*i.size:=Aip _ J
  have u:((madeCells z.cells (c*i.size)).toList.take (n*i.size))=(List.replicate n z.cells.toList).flatten:=by
   have:=Ph z.cells c (by omega)
   rw[Q]at this
   have hm:(madeCells z.cells (c*i.size)).toList=(List.replicate c z.cells.toList).flatten:=by
    rw[<-this]
    simp[madeCells,Q]
   rw[hm]
   have a1:Uni i.size (List.replicate c z.cells.toList):=Uni.replicate (by simpa using Q)
   rw[<-Iv a1,List.take_replicate,Nat.min_eq_left J]
  refine ND (cap:=c) (cur:=madeCells z.cells (c*i.size)) (c:=.slice (some ⟨w.heap.size,0,none⟩) n c) a3 g3 W (Gw.alloc w _ none) (by simp) (heap_alloc_new w _) (by simpa using J) (by unfold maxLen;omega) (size_madeCells _ _) ?_ (by simp[execOp,ho,hx,hy,E]) (fun ρ' N=>?_)
  ·rw[List.length_replicate,u]
   clear E u a4 hn J W hx
   induction n with
   | zero=>simpa using RepL.nil
   | succ n ih=>rw[List.replicate_succ,List.replicate_succ,Ain,Ain];exact(a5 w S ρ M.H).append ih
  ·refine .sl M.H.length n i.size 0 n _ e (List.replicate n zs) 0 false _ c (Kj _ _) (by omega) (by simp) J (by unfold maxLen;omega) (fun hl=>?_) ⟨_,rfl⟩ (fun _ _=>⟨w.heap.size,by simp,.inl N.symm⟩) (fun _ _ _ _=>⟨by rw[N],_,(0,0),by rw[N];exact heap_alloc_new w _,size_madeCells _ _⟩)
   rw[AhL]at hl
   exact hl.symm
 ·cases Z
end
end Go.Mx
namespace Go.Mx
section
variable {P:Program} {w:World} {S:Nat->Prop} {ρ β:Nat->Nat} {M M':Mem} {H:Hp} {o:Oper} {a:Act} {vs:List V} {v:V} {call:Bt}
theorem cut3 {α:Type}(F X:List α)(p N:Nat)(h:p+X.length<=N)(z:N<=F.length):(F.take p++X++F.drop (p+X.length)).take N=(F.take N).take p++X++(F.take N).drop (p+X.length):=by
 have u:(F.take p++X).length=p+X.length:=by rw[AhF,AhH];omega
 rw[List.take_append,u,AhJ (by omega),List.take_take,Nat.min_eq_left (by omega),List.drop_take]
variable {esz:Nat} {es':L0} {xs:List V}
theorem SD {ix off:Nat}{es:L0}(J:Uni esz es)(h:BQ esz es ix off xs=some es'):
  es'.flatten=es.flatten.take (ix*esz+off)++xs++es.flatten.drop (ix*esz+off+xs.length)/\Uni esz es'/\es'.length=es.length/\ix*esz+off+xs.length<=es.length*esz:=by
 unfold BQ at h
 split at h
 ·rename_i Z
  rw[Aid]at Z
  simp only[Ahn,AU,FC,Ag,Aid,Aho]at h
  obtain⟨e,Y,e',⟨E,rfl⟩,U⟩:=h
  obtain⟨N,rfl⟩:=Bw U
  have a0:=J.get Y
  have W:(ix+off / esz)*esz+off%esz=ix*esz+off:=by
   have:=Nat.div_add_mod off esz
   rw[Aif,AiU (off / esz) esz]
   omega
  have Q:(ix+off / esz)*esz+esz<=es.length*esz:=by
   have:=Aip esz (Nat.succ_le_of_lt N)
   rw[Nat.succ_mul]at this
   exact this
  have u:(e.take (off%esz)++xs++e.drop (off%esz+xs.length)).length=esz:=by
   simp only[AhF,AhH,Aie]
   omega
  refine⟨?_,J.set u,by simp,by omega⟩
  rw[Kr J N u]
  have z:=HC J Y
  generalize hF:es.flatten=F at z
  have a3:F.length=es.length*esz:=by rw[<-hF];exact J.len
  generalize (ix+off / esz)*esz=q at z W Q
  have a1:F.take q++e.take (off%esz)=F.take (ix*esz+off):=by
   rw[z,List.take_take,Nat.min_eq_left (by omega),<-W,List.take_add]
  have a2:e.drop (off%esz+xs.length)++F.drop (q+esz)=F.drop (ix*esz+off+xs.length):=by
   rw[z,<-W]
   have:F.drop (q+esz)=(F.drop q).drop esz:=by rw[AiH]
   rw[this,<-List.drop_append_of_le_length (by rw[AhH,Aie];omega),List.take_append_drop,AiH]
   congr 1
   omega
  rw[<-a1,<-a2]
  simp only[AiB]
 ·simp only[Ahn,FC,Ag,Aid,Aho]at h
  obtain⟨l,⟨E,rfl⟩,rfl⟩:=h
  rw[J.len]at E
  have hl:(es.flatten.take (ix*esz+off)++xs++es.flatten.drop (ix*esz+off+xs.length)).length=es.length*esz:=by
   simp only[AhF,AhH,Aie,J.len]
   omega
  refine⟨?_,Gc esz _ _ (by omega),Gd ..,E⟩
  rw[Fd esz _ _ (by omega),AhJ (by omega)]
theorem Tl {x:V}{c:Value}(h:BL x=true)(E:RepV w S ρ H x c):c.oneCell'=true:=by
 cases E with
 | m z=>cases z <;> first|rfl|(simp[BL]at h)
 | un=>simp[BL]at h
 | ag xs cs u c N J=>simp[BL]at h
 | tu xs cs u c N J=>simp[BL]at h
 | _=>rfl
theorem Ik {cs:List Value}(h:xs.all BL=true)(z:RepL w S ρ H xs cs):∀c,c∈cs->c.oneCell'=true:=by
 induction xs generalizing cs with
 | nil=>rw[z.inv_nil];simp
 | cons x xs J =>
  obtain⟨c,r,rfl,N,E⟩:=z.inv_cons
  simp only[List.all_cons,Ahs]at h
  intro d u
  rcases AhO.1 u with rfl|u
  ·exact Tl h.1 N
  ·exact J h.2 E d u
theorem EK (w:World)(g:Nat)(cs:Array Value):Gw w (w.setRow g cs) (some g) :=
 ⟨⟨rfl,rfl,rfl,by simp,fun k _ u=>setRow_other w g k cs (fun e=>u (by rw[e]))⟩,fun _=>Ahu _⟩
variable {cur:Array Value} {mk:Nat×Nat}
theorem Jn {w:World}{g j:Nat}{ty:TypeId}(z:w.heap[g]? = some (.cells cur ty mk))(u:Win cur.size mk)(E:j<cur.size):w.frozen? ⟨g,j,none⟩=false:=by
 obtain⟨N,J⟩:=mk
 simp only[World.frozen?,z,Bool.and_eq_false_iff,decide_eq_false_iff_not]
 rcases u with u|u
 ·cases u
  omega
 ·simp only at u
  omega
theorem Cr (P:Program)(g o:Nat)(t:TypeId)(mk:Nat×Nat):∀(vs:List Value) (i:Nat) (cur:Array Value) (w:World),w.heap[g]? = some (.cells cur t mk)->Win cur.size mk->o+i+vs.length<=cur.size->(∀v∈vs,v.oneCell'=true) ->
  (storeCells ⟨g,o,none⟩ vs i).run P w=.ok () (w.setRow g (cur.toList.take (o+i)++vs++cur.toList.drop (o+i+vs.length)).toArray)
 | [],i,cur,w,hg,_,_,_=>by
  simp only[storeCells,Ail,Aic,Nat.add_zero,List.take_append_drop,Array.toArray_toList]
  rw[setRow_self w g cur t mk hg]
  rfl
 | v::rest,i,cur,w,hg,hw,hl,h1=>by
  have hi:o+i<cur.size:=by simp at hl;omega
  have z:(⟨g,o,none⟩:Addr).add i=⟨g,o+i,none⟩:=by unfold Addr.add;split <;> simp_all
  have u:w.cell? ⟨g,o+i,none⟩=some cur[o+i]:=by simp[World.cell?,hg,hi]
  have E:=Jn hg hw hi
  have J:(store ((⟨g,o,none⟩:Addr).add i) v).run P w=.ok () (w.setRow g (cur.setIfInBounds (o+i) v)):=by
   rw[z,run_store P w _ v _ (h1 v (by simp)),u]
   simp[E,setCell_eq_setRow w g (o+i) cur t mk v hg]
  have N:=Cr P g o t mk rest (i+1) (cur.setIfInBounds (o+i) v) (w.setRow g (cur.setIfInBounds (o+i) v)) (setRow_heap w g cur _ t _ hg) (by simpa using hw) (by simp at hl ⊢;omega) (fun x Q=>h1 x (by simp[Q]))
  simp only[storeCells,Sem.run_bind,J,Result.andThen_ok,N,setRow_setRow]
  congr 3
  have e:=list_seg_step cur.toList (o+i) v rest (by simp at hl ⊢;omega)
  simpa[Array.toList_setIfInBounds,Nat.add_assoc]using e
theorem SX {r ty:Nat}{es:L0}{base:Nat}{arr:Array Value}{cap:Nat}(Y:Ok w S ρ β M)(u:M.H[r]? = some (.cs ty esz es base false))(hh:w.heap[ρ r]? = some (.cells cur ty mk))(hw:Win cur.size mk) 
  (hU:Uni esz es') (E:es'.length=es.length) (Z:arr.size=cur.size) (hcap:cur.size=cap*esz) (hle:es.length<=cap) (hcm:cap<=maxLen) (hr:RepL w S ρ M.H es'.flatten (arr.toList.take (es.length*esz))) :
  Ok (w.setRow (ρ r) arr) S ρ β { M with H:=M.H.set r (.cs ty esz es' es.length false) }/\Stp w S ρ β M (w.setRow (ρ r) arr) S ρ (M.H.set r (.cs ty esz es' es.length false)):=by
 obtain⟨hb,J,_,_,hns,_⟩:=Y.rows r _ u
 have W:=hns rfl
 have U:(fun k=>if k=r then ρ r else ρ k)=ρ:=by
  funext k
  by_cases c:k=r
  ·rw[Ahv c,c]
  ·rw[Aht c]
 have N:=setRow_heap w (ρ r) cur arr ty mk hh
 have z:=Ok.setRow (w':=w.setRow (ρ r) arr) (S':=S) (g:=ρ r) (row':=.cs ty esz es' es.length false) Y u (EK w _ arr) (.inl rfl) (fun _ h=>h) (fun b h=>.inl h)
  (fun b hb=>setRow_other w _ b arr (fun e=>W (e ▸ hb)))
  (fun ty1 esz1 es1 base1 fz1 e=>by
   cases e
   refine⟨es',es.length,false,rfl,by omega,hb,fun b ver h1 h2 hA=>?_,fun _=>⟨rfl,fun cur1 mk1 h1=>?_⟩⟩
   ·rcases hA with hA|⟨_,hne,_⟩
    ·exact .inl hA
    ·omega
   ·rw[hh]at h1
    cases h1
    exact⟨arr,mk,N,Z⟩)
  (fun es1 fz1 e=>by cases e)
  (fun Q=>by
   rw[U]at Q ⊢
   exact⟨by omega,J,hU,fun e=>(by cases e),fun _=>W,arr,cap,mk,N,fun _=>(by rw[Z];exact hw),by omega,by omega,hcm,by rw[E];exact hr.mono Q⟩)
 rw[U]at z
 exact z
theorem SQ {t:TypeId}{x y:Operand}{s:Nat}(ho:o.op=.store t x y)(hs:BD P t=some s):S6 o a P w S ρ β M vs v M' call (.st s) [a.eval x,a.eval y]:=fun Y hv he=>by
 cases hv with|cons h t1 =>
 cases t1 with|cons h1 t2 =>
 cases t2
 obtain⟨i,hi,rfl⟩:=AP.1 hs
 simp only[An,Ahn,Ag,Ahs,AhL,Aho,Ahp]at he
 obtain⟨xs,hxs,⟨hl,hone⟩,M1,E,rfl,rfl⟩:=he
 have hX:=RepX.cells h1 hxs
 have W:=hX.1
 have hX1:=Ik hone hX
 simp only[Aih]at W
 have run:∀(b off:Nat) (cur:Array Value) (T:TypeId) (mk:Nat×Nat),a.eval x=.pointer (some ⟨b,off,none⟩)->w.heap[b]? = some (.cells cur T mk)->Win cur.size mk->off+xs.length<=cur.size ->
   (execOp a.eval o).run P w=.ok .skip (w.setRow b (cur.toList.take off++(a.eval y).cells.toList++cur.toList.drop (off+xs.length)).toArray):=fun b off cur T mk hx hh hwin hle=>by
  have z:=Cr P b off T mk (a.eval y).cells.toList 0 cur w hh hwin (by simp;omega) hX1
  simp only[Nat.add_zero,Aih,W]at z
  have hne:¬(a.eval y).cells.size≠i.size:=by omega
  simp only[execOp,ho,hx,Instr.storeAt,Instr.sureAddr,storeVar,Sem.run_bind,Sem.run_pure,Result.andThen_ok,AR hi,Aht hne,z]
 unfold Fp at E
 split at E
 ·rename_i d off
  simp only[Ahn,Aho]at E
  obtain⟨cs0,h0,cs',hcs',rfl⟩:=E
  obtain⟨cur,T,hh,hr⟩:=Y.boxes d cs0 h0
  obtain⟨hR,hle⟩:=LD hcs' hr hX
  simp only[Aih,W]at hR hle
  have J:=run (β d) off cur T _ h hh (.inl rfl) hle
  obtain⟨N,z⟩:=Ok.setBox (d:=d) (cs:=cs') (cur:=(cur.toList.take off++(a.eval y).cells.toList++cur.toList.drop (off+xs.length)).toArray) (T:=T) Y (by rw[h0];rfl) (EK w (β d) _) (setRow_heap w _ cur _ T (0,0) hh) (by simpa using hR)
  refine⟨_,undef,_,_,_,_,J,.inr ⟨rfl,rfl⟩,N,z,.un,fun _ _=>rfl,fun k hk=>.inl ⟨k,?_,rfl⟩⟩
  simp only[AM]at hk
  split at hk
  ·rename_i e;rw[e,h0];rfl
  ·exact hk
 ·rename_i r ver ix off
  simp only[Ahn,AU]at E
  obtain⟨row,Q,E⟩:=E
  split at E
  ·rename_i ty esz es base fz
   simp only[Ag,Ahs,AhL,Aia,Ahn,Aho]at E
   obtain⟨⟨hfz,hve⟩,es',hes',H',hH',rfl⟩:=E
   subst hfz
   obtain⟨hrl,rfl⟩:=Bw hH'
   have hx:=RepX.toV rfl h
   generalize hxe:a.eval x=c at hx
   cases hx with|pt _ _ _ _ ty' esz' es1 base' fz' p u h2 hix hb =>
   rw[Q]at u
   simp only[Aho,Row.cs.injEq]at u
   obtain⟨rfl,rfl,rfl,rfl,rfl⟩:=u
   obtain⟨hbl,hpos,hU,_,hns,cur,cap,mk,hh,U,hcs,Z,hcm,hr⟩:=Y.rows r _ Q
   have U:=U rfl
   obtain⟨b,rfl,hA⟩:=hb (by omega)
   have hbe:b=ρ r:=by
    rcases hA with hA|⟨_,hne,_⟩
    ·exact hA
    ·exact absurd hve hne
   subst hbe
   obtain⟨w1,w2,w3,w4⟩:=SD hU hes'
   have hcap':es.length*esz<=cap*esz:=Aip _ Z
   have J:=run (ρ r) (ix*esz+off) cur ty mk hxe hh U (by omega)
   have hRL:RepL w S ρ M.H es'.flatten ((cur.toList.take (ix*esz+off)++(a.eval y).cells.toList++cur.toList.drop (ix*esz+off+xs.length)).toArray.toList.take (es.length*esz)):=by
    have:=cut3 cur.toList (a.eval y).cells.toList (ix*esz+off) (es.length*esz) (by simp;omega) (by simp;omega)
    simp only[Aih,W]at this
    rw[List.toList_toArray,this,w1]
    exact((hr.take _).append hX).append (hr.drop _)
   obtain⟨N,z⟩:=SX (arr:=(cur.toList.take (ix*esz+off)++(a.eval y).cells.toList++cur.toList.drop (ix*esz+off+xs.length)).toArray) Y Q hh U w2 w3 (by simp;omega) hcs Z hcm hRL
   exact⟨_,undef,_,_,_,_,J,.inr ⟨rfl,rfl⟩,N,z,.un,fun _ _=>rfl,fun k hk=>.inl ⟨k,hk,rfl⟩⟩
  ·cases E
 ·cases E
end
end Go.Mx
namespace Go.Mx
section
variable {P:Program} {w:World} {S:Nat->Prop} {ρ β:Nat->Nat} {M M':Mem} {H:Hp} {o:Oper} {a:Act} {vs:List V} {v:V} {call:Bt}
theorem Jl (r:Nat):(fun k=>if k=r then ρ r else ρ k)=ρ:=by
 funext k
 by_cases c:k=r
 ·rw[Ahv c,c]
 ·rw[Aht c]
variable {c c':Value}
theorem FU (n:Nat){k:Nat}{x y:I}(h:eqC k x y=some true)(E:RepI w S x c)(z:RepI w S y c'):Instr.sameBits n c' c=true:=by
 rcases IA h E z with ⟨_,p,q,rfl,rfl,e⟩|⟨_,j,p,q,rfl,rfl,e⟩|⟨_,p,q,rfl,rfl,e⟩
 ·have:p=q:=eq_of_beq e.symm
  subst this
  cases n <;> simp[Instr.sameBits]
 ·have:p=q:=eq_of_beq e.symm
  subst this
  cases n <;> simp[Instr.sameBits]
 ·have u:=e.symm
  rw[beq_toListBytes]at u
  have:(q==p)=true:=by rw[beq_toListBytes,eq_of_beq u];simp
  cases n <;> simpa[Instr.sameBits]using this
theorem Fq (n:Nat):∀(ks:List Nat) (xs ys:List I) (cs u:List Value),Fv ks xs ys=some true->LI w S xs cs->LI w S ys u->((u.zip cs).all fun p=>Instr.sameBits n p.1 p.2)=true
 | [],xs,ys,cs,u,h,hx,hy=>by
  have hl:=Em _ _ _ _ h
  have E:=hy.len
  have:u=[]:=AhT (by rw[E,hl.2];rfl)
  subst this
  rfl
 | k::ks,[],ys,cs,u,h,hx,hy=>by simp[Fv]at h
 | k::ks,x::xs,[],cs,u,h,hx,hy=>by simp[Fv]at h
 | k::ks,x::xs,y::ys,cs,u,h,hx,hy=>by
  simp only[Fv,Ahn,Aho,Ahs]at h
  obtain⟨r,U,W,z,rfl,rfl⟩:=h
  obtain⟨c,cs,rfl,Q,E⟩:=RepL.inv_cons (xs:=xs.map .m) hx
  obtain⟨c',u,rfl,N,J⟩:=RepL.inv_cons (xs:=ys.map .m) hy
  simp only[List.zip_cons_cons,List.all_cons,Ahs]
  exact⟨FU n U Q.imm N.imm,Fq n ks xs ys cs u z E J⟩
variable {kt:KT}
theorem Lv {x y:I}(h:Dy kt x y=some true)(W:RepI w S x c)(U:RepI w S y c'):Instr.sameBits 10000 c' c=true:=by
 unfold Dy at h
 split at h
 ·split at h
  ·rename_i xs Z
   obtain⟨cs,rfl,Q⟩:=RepV.ofAgI (ρ:=id) (H:=[]) (.m W)
   obtain⟨u,rfl,E⟩:=RepV.ofAgI (ρ:=id) (H:=[]) (.m U)
   have N:=Em _ _ _ _ h
   have J:=(LI.ofL Q).len
   have z:=(LI.ofL E).len
   have:=Fq 9999 _ _ _ _ _ h (.ofL Q) (.ofL E)
   simp only[Aih]at J z
   have Y:(u.size==cs.size)=true:=by rw[J,z,N.1,N.2];simp
   show ((u.size==cs.size)&&(u.toList.zip cs.toList).all fun(x,y)=>Instr.sameBits 9999 x y)=true
   rw[Y]
   exact this
  ·cases h
 ·split at h
  ·exact FU _ h W U
  ·cases h
theorem Kf {kt:KT}{key:I}:∀ {es:List (I×V)} {i:Nat},Ju kt key es=some (some i) -> ∃p,es[i]? = some p/\Dy kt key p.1=some true
 | [],i,h=>by simp[Ju]at h
 | (k,x)::es,i,h=>by
  simp only[Ju,Ahn]at h
  obtain⟨b,z,h⟩:=h
  cases b with
  | true=>simp at h;subst h;exact⟨_,rfl,z⟩
  | false =>
   simp only[Ahn,Aho]at h
   obtain⟨q,E,u⟩:=h
   cases q with
   | none=>simp at u
   | some j =>
    simp at u
    subst u
    simpa using Kf E
theorem Mi (w:World)(r:Nat)(x:Obj):Gw w { w with heap:=w.heap.setIfInBounds r x } (some r) :=
 ⟨⟨rfl,rfl,rfl,by simp,fun k _ u=>by
  have:r≠k:=fun e=>u (by rw[e])
  simp[this]⟩,fun _=>Ahu _⟩
variable {es:List (I×V)} {ents:Array MapEntry} {clock:Nat}
theorem Tv {r:Nat}{es':List (I×V)}{u:Array MapEntry}{clock':Nat}(N:Ok w S ρ β M)(E:M.H[r]? = some (.mp es false))(hh:w.heap[ρ r]? = some (.map ents clock))(hE:Ents w S ρ M.H es' u.toList)(Z:Brn u clock'):
  Ok { w with heap:=w.heap.setIfInBounds (ρ r) (.map u clock') } S ρ β { M with H:=M.H.set r (.mp es' false) }/\Stp w S ρ β M { w with heap:=w.heap.setIfInBounds (ρ r) (.map u clock') } S ρ (M.H.set r (.mp es' false)):=by
 obtain⟨_,U,_⟩:=N.rows r _ E
 have J:=U rfl
 have a1:=(AhY.1 hh).1
 have Q:=Ok.setRow (w':={ w with heap:=w.heap.setIfInBounds (ρ r) (.map u clock') }) (S':=S) (g:=ρ r) (row':=.mp es' false) N E (Mi w _ _) (.inl rfl) (fun _ h=>h) (fun b h=>.inl h)
  (fun b hb=>by
   have:ρ r≠b:=fun e=>J (e ▸ hb)
   simp[this])
  (fun ty1 a3 a2 a0 Y e=>by cases e)
  (fun a2 Y e=>⟨rfl,es',false,rfl⟩)
  (fun z=>by
   rw[Jl]at z ⊢
   refine⟨fun e=>(by cases e),fun _=>J,u,clock',by simp[a1],⟨by have:=All2.length hE;simpa using this.symm,Z⟩,fun j k x hj=>?_⟩
   obtain⟨W,h1,h2,h3⟩:=All2.get hE j _ hj
   exact⟨W,by simpa using h1,h2.mono z.hw z.hS,h3.mono z⟩)
 rw[Jl]at Q
 exact Q
theorem Ents.ofRow {r:Nat}{fz:Bool}(E:Ok w S ρ β M)(u:M.H[r]? = some (.mp es fz)):∃ents clock,w.heap[ρ r]? = some (.map ents clock)/\Ents w S ρ M.H es ents.toList/\Brn ents clock:=by
 obtain⟨_,_,ents,clock,W,⟨N,z⟩,Y⟩:=E.rows r _ u
 exact⟨ents,clock,W,All2.ofGet (by simpa using N) (fun j p Q=>by
  obtain⟨J,Z,U⟩:=Y j p.1 p.2 Q
  exact⟨J,by simpa using Z,U⟩),z⟩
variable {k:Value}
theorem XO {x:Value}(h:Brn ents clock):Brn (ents.push { key:=k,val:=x,born:=clock }) (clock+1):=by
 refine⟨fun y u=>?_,?_⟩
 ·rw[Array.toList_push]at u
  rcases Aig.1 u with u|u
  ·have:=h.1 y u;omega
  ·rw[AhQ.1 u];exact Nat.lt_succ_self _
 ·rw[Array.toList_push,List.map_append,List.nodup_append]
  refine⟨h.2,by simp,fun a E b z e=>?_⟩
  simp only[AhV,List.map_nil,AhQ]at z
  obtain⟨y,u,rfl⟩:=AhP.1 E
  have:=h.1 y u
  omega
theorem RM {x:Value}{i:Nat}(h:Brn ents clock):Brn (ents.modify i fun e=>{ e with key:=k,val:=x }) clock:=by
 have e:(ents.modify i fun e=>{ e with key:=k,val:=x }).toList.map (·.born)=ents.toList.map (·.born):=by
  apply List.ext_getElem?
  intro j
  simp only[AhN,Array.getElem?_toList,Array.getElem?_modify]
  split
  ·cases ents[j]? <;> rfl
  ·rfl
 refine⟨fun y E=>?_,by rw[e];exact h.2⟩
 have J:y.born∈ents.toList.map (·.born):=by rw[<-e];exact AiN E
 obtain⟨z,u,N⟩:=AhP.1 J
 have:=h.1 z u
 omega
theorem TX {i:Nat}(h:Brn ents clock):Brn (ents.eraseIdxIfInBounds i) clock:=by
 have e:(ents.eraseIdxIfInBounds i).toList.Sublist ents.toList:=by
  unfold Array.eraseIdxIfInBounds
  split
  ·rw[Array.toList_eraseIdx]
   exact List.eraseIdx_sublist _ _
  ·exact .refl _
 exact⟨fun y u=>h.1 y (e.subset u),(e.map _).nodup h.2⟩
variable {t kt0 e:TypeId}
theorem SR {m k x:Operand}(ho:o.op=.mapUpdate t m k x\/o.op=.insert t m k x)(hu:P.underlying t=some (.map kt0 e))(hkt:Sr P kt0=some kt):S6 o a P w S ρ β M vs v M' call (.mup kt) [a.eval m,a.eval k,a.eval x]:=fun hok hv Q=>by
 cases hv with|cons h t1 =>
 cases t1 with|cons h1 t2 =>
 cases t2 with|cons h2 t3 =>
 cases t3
 simp only[An]at Q
 split at Q
 ·rename_i r
  simp only[Ahn,AU]at Q
  obtain⟨row,Z,Q⟩:=Q
  split at Q
  ·rename_i es
   simp only[Ahn,Ag,Ahs,Aho,Ahp]at Q
   obtain⟨key,hkey,⟨hfa,a0⟩,es',hes',H',hH',rfl,rfl⟩:=Q
   have hke:=NN hkey
   subst hke
   obtain⟨hrl,rfl⟩:=Bw hH'
   have E:=(RepX.toV rfl h1).imm
   have hxv:=RepX.toV hfa h2
   have hm:a.eval m=.map (some (ρ r)):=by
    have:=RepX.toV rfl h
    generalize a.eval m=c at this
    cases this
    rfl
   obtain⟨ents,clock,hh,hE,hbr⟩:=Ents.ofRow hok Z
   obtain⟨p,hp,rfl⟩:=OQ hes'
   have hck:=Dl (P:=P) (w:=w) false hkt a0 E
   have hfk:=Dk (P:=P) hkt E a0 hE hp
   have W:∀u clock',(Instr.mapUpdate t (.map (some (ρ r))) (a.eval k) (a.eval x)).run P w=.ok () { w with heap:=w.heap.setIfInBounds (ρ r) (.map u clock') }->Brn u clock' -> ∀es',Ents w S ρ M.H es' u.toList ->
     Outc w S ρ β M (.l (.mup kt)) .un { M with H:=M.H.set r (.mp es' false) } ((execOp a.eval o).run P w):=fun u clock' hrun hbr' es' hE'=>by
    obtain⟨hok',hst⟩:=Tv (clock':=clock') hok Z hh hE' hbr'
    refine⟨.skip,undef,_,_,_,_,?_,.inr ⟨rfl,rfl⟩,hok',hst,.un,fun _ _=>rfl,fun d hd=>.inl ⟨d,hd,rfl⟩⟩
    rcases ho with ho|ho <;> simp[execOp,ho,hm,hrun]
   cases p with
   | none =>
    have hn:DJ ents.toList 0 none=none:=rfl
    refine W (ents.push { key:=a.eval k,val:=a.eval x,born:=clock }) (clock+1) ?_ (XO hbr) _ ?_
    ·simp only[Instr.mapUpdate,Sem.run_bind,run_underlying hu,Result.andThen_ok,MapKept.run_getObj_map hh,hck,hfk,hn,MapKept.run_setObj_map _ hh]
    ·refine All2.ofGet (by have:=All2.length hE;simp at this ⊢;omega) fun j q N=>?_
     by_cases c:j<es.length
     ·rw[AhM c]at N
      obtain⟨z,h1,h2⟩:=All2.get hE j q N
      refine⟨z,?_,h2⟩
      have a1:=(Ahq.1 h1).1
      simp only[Array.toList_push]
      rw[AhM a1]
      exact h1
     ·have hl:=All2.length hE
      have hj':=(Ahq.1 N).1
      simp only[AhF,Aib,Aic]at hj'
      have hje:j=es.length:=by omega
      subst hje
      simp at N
      subst N
      exact⟨{ key:=a.eval k,val:=a.eval x,born:=clock },by rw[hl];simp,E,hxv⟩
   | some i =>
    obtain⟨q,hq,hqk⟩:=Kf hp
    obtain⟨z,Y,hE1,hE2⟩:=All2.get hE i q hq
    have hn:DJ ents.toList 0 (some i)=some (i,z.val):=by simp only[DJ,Ahz,Y,Aix,Air]
    have hsb:=Lv hqk E hE1
    have J:ents[i]? = some z:=by simpa using Y
    refine W (ents.modify i fun e=>{ e with key:=a.eval k,val:=a.eval x }) clock ?_ (RM hbr) _ ?_
    ·simp only[Instr.mapUpdate,Sem.run_bind,run_underlying hu,Result.andThen_ok,MapKept.run_getObj_map hh,hck,hfk,hn,J,Aix,AiT,Instr.keyThatStays,hsb,if_true,Sem.run_pure,MapKept.run_setObj_map _ hh]
    ·refine All2.ofGet (by have:=All2.length hE;simp at this ⊢;omega) fun j q' N=>?_
     by_cases c:i=j
     ·subst c
      have a1:=(Ahq.1 hq).1
      simp[a1]at N
      subst N
      exact⟨{ z with key:=a.eval k,val:=a.eval x },by simp[J],E,hxv⟩
     ·rw[Ait c]at N
      obtain⟨U,h1,h2⟩:=All2.get hE j q' N
      have h1':ents[j]? = some U:=by simpa using h1
      exact⟨U,by simp[c,h1'],h2⟩
  ·cases Q
 ·cases Q
theorem AaK {c:Go.Call}(ho:o.op=.call c)(hb:c.callee=.builtin .delete)(ht:c.argTypes[0]? = some t)(hu:P.underlying t=some (.map kt0 e))(hkt:Sr P kt0=some kt):S6 o a P w S ρ β M vs v M' call (.mdl kt) (c.args.toList.map a.eval):=fun hok hv z=>by
 match vs,z with
 | [m,k],z =>
  obtain⟨cm,ck,U,h,h1⟩:=hv.inv2
  have hm:=Acc U
  simp only[An]at z
  split at z
  ·rename_i r
   simp only[Ahn,AU]at z
   obtain⟨row,J,z⟩:=z
   split at z
   ·rename_i es
    simp only[Ahn,Ag,Aho,Ahp]at z
    obtain⟨key,hkey,es',⟨Q,hes'⟩,H',hH',rfl,rfl⟩:=z
    have hke:=NN hkey
    subst hke
    obtain⟨hrl,rfl⟩:=Bw hH'
    have hkr:=(RepX.toV rfl h1).imm
    have hmc:cm=.map (some (ρ r)):=by
     have:=RepX.toV rfl h
     cases this
     rfl
    subst hmc
    obtain⟨ents,clock,hh,W,hbr⟩:=Ents.ofRow hok J
    obtain⟨p,hp,rfl⟩:=PJ hes'
    have hck:=Dl (P:=P) (w:=w) ents.isEmpty hkt Q hkr
    have hfk:=Dk (P:=P) hkt hkr Q W hp
    have N:∀u,(Builtin.delete_ c.argTypes o.type #[.map (some (ρ r)),ck]).run P w=.ok (.tuple #[]) { w with heap:=w.heap.setIfInBounds (ρ r) (.map u clock) }->Brn u clock -> ∀es',Ents w S ρ M.H es' u.toList ->
      Outc w S ρ β M (.l (.mdl kt)) (.tu []) { M with H:=M.H.set r (.mp es' false) } ((execOp a.eval o).run P w):=fun u Z Y es' hE'=>by
     obtain⟨hok',hst⟩:=Tv (clock':=clock) hok J hh hE' Y
     exact⟨_,.tuple #[],_,_,_,_,AD ho hb (fun _=>by rw[hm];rfl) Z,.inl rfl,hok',hst,RepL.toTu (cs:=#[]) .nil,fun _ _=>rfl,fun d hd=>.inl ⟨d,hd,rfl⟩⟩
    cases p with
    | none =>
     have hn:DJ ents.toList 0 none=none:=rfl
     refine N ents ?_ hbr _ W
     simp[Builtin.delete_,ht,run_underlying hu,MapKept.run_getObj_map hh,hck,hfk,hn,MapKept.run_setObj_map _ hh]
    | some i =>
     obtain⟨q,hq,hqk⟩:=Kf hp
     obtain⟨ent,E,hE1,hE2⟩:=All2.get W i q hq
     have hn:DJ ents.toList 0 (some i)=some (i,ent.val):=by simp only[DJ,Ahz,E,Aix,Air]
     refine N (ents.eraseIdxIfInBounds i) ?_ (TX hbr) _ ?_
     ·simp[Builtin.delete_,ht,run_underlying hu,MapKept.run_getObj_map hh,hck,hfk,hn,MapKept.run_setObj_map _ hh]
     ·have hlt:i<ents.size:=by have:=(Ahq.1 E).1;simpa using this
      have:(ents.eraseIdxIfInBounds i).toList=ents.toList.eraseIdx i:=by simp[Array.eraseIdxIfInBounds,hlt]
      rw[this]
      refine All2.ofGet (by
       have:=All2.length W
       have h2:=(Ahq.1 hq).1
       rw[List.length_eraseIdx,List.length_eraseIdx]
       simp at this ⊢
       rw[Ahv hlt,Ahv h2,this]) fun j q' hj=>?_
      rw[List.getElem?_eraseIdx]at hj ⊢
      split at hj
      ·rename_i c;rw[Ahv c];exact All2.get W j q' hj
      ·rename_i c;rw[Aht c];exact All2.get W (j+1) q' hj
   ·cases z
  ·cases z
end
end Go.Mx
