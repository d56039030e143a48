/- Soundness of the machine, part 3. Nothing here speaks of a program. -/
import Derived.Test.YtiehnedoinlfeaaGreatDoorBb
import Derived.CallsIn
import Derived.TacticsIn
import Derived.OrdersIn
import Derived.RangeFuncRecord
import Derived.RangeFuncLeaves
import Derived.Maps.AppendAt
import Derived.Orders
set_option linter.unusedSimpArgs false
set_option linter.unusedVariables false
set_option linter.unusedSectionVars false
namespace Go.Mx
section
variable {P:Program} {w:World} {S:Nat->Prop} {ρ β:Nat->Nat} {M M':Mem} {H:Hp} {o:Oper} {a:Act} {vs:List V} {v:V} {call:Bt}
theorem NR {w:World}{g n:Nat}{cur:Array Value}{ty:TypeId}{mk:Nat×Nat}(N:w.heap[g]? = some (.cells cur ty mk))(J:n≠0):∃u,(w.freeze ⟨g,0,none⟩ n).heap[g]? = some (.cells cur ty u)/\Gw w (w.freeze ⟨g,0,none⟩ n) (some g):=by
 obtain⟨E,hi⟩:=mk
 unfold World.freeze
 rw[Aht J]
 refine⟨if E==hi then (0,0+n) else (min E 0,max hi (0+n)),?_,⟨⟨rfl,rfl,rfl,by simp,fun k _ U=>?_⟩,fun _=>Ahu _⟩⟩
 ·rw[Array.getElem?_modify,Ahv rfl,N]
  rfl
 ·have:g≠k:=fun e=>U (by rw[e])
  simp[Array.getElem?_modify,this]
theorem AaD {c:Go.Call}{t e:TypeId}(ho:o.op=.call c)(hb:c.callee=.builtin .unsafeString)(ht:c.argTypes[0]? = some t)(hts:c.argTypes.size=2)(hu:P.underlying t=some (.pointer e))(hs:BD P e=some 1):S6 o a P w S ρ β M vs v M' call (.ust e) (c.args.toList.map a.eval):=fun W hv u=>by
 obtain⟨it,hat⟩:∃it,c.argTypes=#[t,it]:=by
  obtain⟨l,hl⟩:∃l,c.argTypes=List.toArray l:=⟨c.argTypes.toList,by simp⟩
  rw[hl]at ht hts ⊢
  match l,hts with
  | [x,y],_=>simp at ht;subst ht;exact⟨y,rfl⟩
 match vs,u with
 | [p,n],u =>
  obtain⟨cp,cn,hargs,h,h1⟩:=hv.inv2
  have hm:=Acc hargs
  simp only[An]at u
  split at u
  ·rename_i k
   have hn:=Cc (RepX.toV rfl h1)
   subst hn
   split at u
   ·simp only[Ag,AhL,Aho,Ahp]at u
    obtain⟨rfl,rfl,rfl⟩:=u
    have hc:cp=.pointer none:=by have:=(RepX.toV rfl h).imm;cases this;rfl
    subst hc
    exact .val W (RepX.ofV (.m (.s .empty [] rfl))) (AD ho hb (fun _=>by rw[hm];rfl) (by rw[hat];exact Lib.run_unsafeString_none w t it o.type none))
   ·rename_i r ver
    simp only[Ahn,AU]at u
    obtain⟨row,N,u⟩:=u
    split at u
    ·rename_i ty esz es base
     simp only[Ag,Ahs,AhL,Aid,Ahn,Aho,Ahp]at u
     obtain⟨⟨⟨⟨⟨⟨rfl,rfl⟩,hbv⟩,hve⟩,hkl⟩,hk1⟩,l,hl,H',hH',rfl,rfl⟩:=u
     obtain⟨hrl,rfl⟩:=Bw hH'
     have hx:=RepX.toV rfl h
     cases hx with|pt _ _ _ _ ty' esz' es1 base' fz' q E h2 hix hb' =>
     rw[N]at E
     simp only[Aho,Row.cs.injEq]at E
     obtain⟨rfl,rfl,rfl,rfl,rfl⟩:=E
     obtain⟨hbl,hpos,hU,_,hns,cur,cap,mk,hh,hmk,hcs,hcap,hcm,hr⟩:=W.rows r _ N
     have hmk:=hmk rfl
     have hnS:=hns rfl
     obtain⟨b,rfl,hA⟩:=hb' hbv
     have hbe:b=ρ r:=by
      rcases hA with hA|⟨_,J,_⟩
      ·exact hA
      ·exact absurd hve J
     subst hbe
     obtain⟨g1,g2,g3⟩:=Gf hl hr
     have hm8:=LM g2
     have U:(l.map UInt8.ofNat).length=k:=by rw[AhD];omega
     have J:l.map UInt8.ofNat≠[]:=by intro e;rw[e]at U;simp at U;omega
     have hsh:w.shape? (ρ r)=some (e,cur.size):=by unfold World.shape?;rw[hh]
     have a0:∀j x,(l.map UInt8.ofNat)[j]? = some x->w.cell? ((⟨ρ r,0*1+0,none⟩:Addr).add j)=some (.int .u8 x.toNat):=fun j x hj=>by
      rw[By,Nat.zero_mul,Air,cell_of_row w (ρ r) j cur e _ hh]
      rw[AhN]at hj
      obtain⟨d,hd,rfl⟩:=AhW.1 hj
      have hg:(cur.toList.take (es.length*1))[j]? = some (.int .u8 (d:Int)):=by rw[g3];simp[hd]
      rw[AhX]at hg
      split at hg
      ·have hd2:=g2 d (Ahw hd)
       have:((UInt8.ofNat d).toNat:Int)=(d:Int):=by simp;omega
       rw[this]
       simpa using hg
      ·cases hg
     have hcz:P.cellsOf e=1:=by
      obtain⟨i,hi,hi1⟩:=AP.1 hs
      simp[Program.cellsOf,hi,hi1]
     have Y:=Lib.run_unsafeString_row (P:=P) w t it o.type e hu hcz (ρ r) cur.size hsh (l.map UInt8.ofNat) J (by rw[U];omega) (by rw[U];unfold maxLen at hcm;omega) (by simpa using a0)
     rw[U]at Y
     obtain⟨mk2,f1,f2⟩:=NR hh (n:=k) (by omega)
     have Z:=Ok.setRow (w':=w.freeze ⟨ρ r,0,none⟩ k) (S':=fun b=>S b\/b=ρ r) (g:=ρ r) (row':=.cs e 1 es base true) W N f2 (.inl rfl) (fun _ h=>.inl h) (fun b h=>h)
      (fun b hb=>f2.block b (W.lt b hb) (fun e=>hnS (by cases e;exact hb)))
      (fun ty1 esz1 es1 base1 fz1 e1=>by
       cases e1
       refine⟨es,base,true,rfl,Ahu _,Ahu _,fun b ver h1 h2 hA=>?_,fun _=>⟨rfl,fun cur1 mk1 h1=>?_⟩⟩
       ·rcases hA with hA|⟨a1,J,hc⟩
        ·exact .inl hA
        ·refine .inr ⟨.inl a1,J,fun j hj=>?_⟩
         have e1:(w.freeze ⟨ρ r,0,none⟩ k).cell? ⟨b,j,none⟩=w.cell? ⟨b,j,none⟩:=World.cell?_of_block (f2.block b (W.lt b a1) (fun e=>hnS (by cases e;exact a1)))
         have e2:(w.freeze ⟨ρ r,0,none⟩ k).cell? ⟨ρ r,j,none⟩=w.cell? ⟨ρ r,j,none⟩:=by
          rw[cell_of_row _ _ j cur e _ f1,cell_of_row _ _ j cur e _ hh]
         rw[e1,e2]
         exact hc j hj
       ·rw[hh]at h1
        cases h1
        exact⟨cur,mk2,f1,rfl⟩)
      (fun es1 fz1 e1=>by cases e1)
      (fun hto=>by
       rw[Jl]at hto ⊢
       exact⟨hbl,hpos,hU,fun _=>.inr rfl,fun e=>(by cases e),cur,cap,mk2,f1,fun e=>(by cases e),hcs,hcap,hcm,hr.mono hto⟩)
     rw[Jl]at Z
     exact⟨_,.string ⟨(l.map UInt8.ofNat).toArray⟩,_,_,_,_,AD ho hb (fun _=>by rw[hm];rfl) (by rw[hat];simpa using Y),.inl rfl,Z.1,Z.2,RepX.ofV (.m (.s _ l (by simpa using hm8))),fun _ _=>rfl,fun d hd=>.inl ⟨d,hd,rfl⟩⟩
    ·cases u
   ·cases u
  ·cases u
end
end Go.Mx
namespace Go.Mx
section
variable {P:Program} {w w1 w2:World} {S S1 S2:Nat->Prop} {ρ ρ1 ρ2 β β1:Nat->Nat} {M M1 M':Mem} {H H2:Hp} {o:Oper} {a:Act} {vs:List V} {v:V} {call:Bt}
theorem Stp.trans (h:Stp w S ρ β M w1 S1 ρ1 M1.H)(u:∀d,(getB M1.B d).isSome->(∃q,(getB M.B q).isSome/\β1 d=β q)\/w.heap.size<=β1 d)(k:Stp w1 S1 ρ1 β1 M1 w2 S2 ρ2 H2):Stp w S ρ β M w2 S2 ρ2 H2 where
 vals v c hv:=k.vals v c (h.vals v c hv)
 stab b u:=k.stab b (h.stab b u)
 heap b u:=(k.heap b (h.stab b u)).trans (h.heap b u)
 keep b hlt N U:=by
  refine(k.keep b (AiR hlt h.size) (fun r Y e=>?_) (fun d W e=>?_)).trans (h.keep b hlt N U)
  ·rcases h.rown r Y with ⟨q,J,E⟩|E
   ·exact N q J (e.trans E)
   ·omega
  ·rcases u d W with ⟨q,J,E⟩|E
   ·exact U q J (e.trans E)
   ·omega
 news b u:=by
  rcases k.news b u with u|u|⟨r,N,e⟩
  ·exact h.news b u
  ·exact .inr (.inl (AiF h.size u))
  ·rcases h.rown r N with ⟨q,J,E⟩|E
   ·exact .inr (.inr ⟨q,J,e.trans E⟩)
   ·exact .inr (.inl (by omega))
 rown r N:=by
  rcases k.rown r N with ⟨q,J,e⟩|e
  ·rcases h.rown q J with ⟨q',Z,E⟩|E
   ·exact .inl ⟨q',Z,e.trans E⟩
   ·exact .inr (by omega)
  ·exact .inr (AiF h.size e)
 size:=AiF h.size k.size
 os:=k.os.trans h.os
 tape:=k.tape.trans h.tape
 output:=k.output.trans h.output
 drawn:=fun U=>AiF (h.drawn U) (k.drawn U)
variable {l:List I} {cs:List Value}
theorem SF {R:Nat->Prop}(E:Ok w S ρ β M)(u:Sp R M.H){n:Nat}{xs:List V}(Z:Ah (view n M.H) xs=some l)(W:∀x,x∈xs->InN R n x)(N:RepL w S ρ M.H xs cs):LI w (Sof S ρ M.H R) l cs:=by
 obtain⟨g1,Y⟩:=optMap_get Z
 refine⟨by rw[AhD,g1];exact N.1,fun j y J=>?_⟩
 rw[AhN]at J
 obtain⟨z,hz,rfl⟩:=AhW.1 J
 obtain⟨x,U,hf⟩:=Y j z hz
 obtain⟨c,hc,hr⟩:=N.2 j x U
 exact⟨c,hc,.m (FP E u n x c z hf (W x (Ahw U)) hr)⟩
theorem LI.mono (J:∀b,S b->w1.heap[b]? = w.heap[b]?)(E:∀b,S b->S1 b)(h:LI w S l cs):LI w1 S1 l cs:=by
 refine⟨h.1,fun j x u=>?_⟩
 obtain⟨c,U,N⟩:=h.2 j x u
 rw[AhN]at u
 obtain⟨z,W,rfl⟩:=AhW.1 u
 exact⟨c,U,.m (N.imm.mono J E)⟩
theorem LI.toL (h:LI w S l cs):RepL w S ρ H (l.map .m) cs:=by
 refine⟨h.1,fun j x u=>?_⟩
 obtain⟨c,J,E⟩:=h.2 j x u
 rw[AhN]at u
 obtain⟨z,N,rfl⟩:=AhW.1 u
 exact⟨c,J,.m E.imm⟩
variable {x:V} {rs:List Nat}
theorem Nz (h:CY x=true)(u:∀r,r∈Fs x->r∈rs)(n:Nat):InN (· ∈ rs) n x:=by
 cases n with
 | zero=>exact Aii
 | succ n=>cases x <;> first|exact Aii|(simp[CY]at h;done)|exact u _ (by simp[Fs])
theorem XH {y:V}{l:List V}(h:BN x=true)(J:∀r,r∈Dv x->r∈rs)(hl:AA x=some l)(u:y∈l)(n:Nat):InN (· ∈ rs) n y:=by
 cases x with
 | m i =>
  cases i with
  | ag cs =>
   simp only[AA,Aho]at hl
   subst hl
   obtain⟨z,_,rfl⟩:=AhP.1 u
   exact Ma rfl n
  | _ =>
   simp only[AA,Aho]at hl
   subst hl
   rw[AhQ.1 u]
   exact Ma rfl n
 | ag cs =>
  simp only[AA,Aho]at hl
  subst hl
  exact Nz (AhE.1 h y u) (fun r E=>J r (List.mem_flatMap.2 ⟨y,u,E⟩)) n
 | tu vs=>simp[AA]at hl
 | un=>simp[AA]at hl
 | fa d off=>simp[AA]at hl
 | _ =>
  simp only[AA,Aho]at hl
  subst hl
  rw[AhQ.1 u]
  exact Gx h J n
theorem JF {esz:Nat}:∀(ps:List Nat) (xs:List V) (es es':L0),BO esz es ps xs=some es' -> ∀y,y∈es'.flatten->y∈es.flatten \/ ∃x,x∈xs /\ ∃l,AA x=some l/\y∈l
 | [],[],es,es',h,y,u=>by simp only[BO,Aho]at h;subst h;exact .inl u
 | [],_::_,es,es',h,y,u=>by simp[BO]at h
 | _::_,[],es,es',h,y,u=>by simp[BO]at h
 | p::ps,x::xs,es,es',h,y,u=>by
  simp only[BO,Ahn,Ag,AhL]at h
  obtain⟨lx,U,W,a0,E,h⟩:=h
  obtain⟨_,rfl⟩:=Bw E
  rcases JF ps xs _ es' h y u with u|⟨z,Y,l,Z,u⟩
  ·obtain⟨e,J,N⟩:=List.mem_flatten.1 u
   rcases List.mem_or_eq_of_mem_set J with J|J
   ·exact .inl (List.mem_flatten.2 ⟨e,J,N⟩)
   ·subst J
    exact .inr ⟨x,by simp,_,U,N⟩
  ·exact .inr ⟨z,by simp[Y],l,Z,u⟩
theorem Aay {c:Value}(h:toV c=some x):isM x=true:=by
 unfold toV at h
 split at h <;> first|contradiction|(simp only[Aho]at h;subst h;rfl)
variable {t:TypeId} {zs:List V}
theorem SB (h:Dw P t=some zs):∀x,x∈zs->isM x=true:=by
 simp only[Dw,Ahn,Ag]at h
 obtain⟨i,_,z,_,_,E⟩:=h
 intro x N
 obtain⟨j,u,rfl⟩:=List.getElem_of_mem N
 obtain⟨c,_,J⟩:=(optMap_get E).2 j _ (Ahr u)
 exact Aay J
theorem AaY {e:TypeId}{n s:Nat}{ps:Array (Nat×Operand)}(ho:o.op=.buildSlice t n ps)(hu:P.underlying t=some (.slice e))(hs:BD P e=some s)(a1:n*s<=16777216)(E:1<=s)(hz:Dw P e=some zs):S6 o a P w S ρ β M vs v M' call (.bsf s zs n (ps.toList.map (·.1))) ((ps.toList.map (·.2)).map a.eval):=fun hok hv he=>by
 simp only[An,Ahn,Ag,Aho,Ahp]at he
 obtain⟨es,a0,hsh,l,hl,H',hH',rfl,rfl⟩:=he
 obtain⟨C',W,hR,hU,Y⟩:=Fr (P:=P) (w:=w) (S:=S) (ρ:=ρ) (β:=β) (H:=M.H) (a:=a) hu hs a1 E hz hv a0
 obtain⟨J,Z,hl1,hf1⟩:=GL _ hok hH'
 have hcl:=Jr hf1
 have hin:∀x,x∈es.flatten->InN (· ∈ vs.flatMap Dv) 20 x:=fun x hx=>by
  rcases JF _ _ _ _ a0 x hx with hx|⟨y,hy,l,hl,hx⟩
  ·obtain⟨e,he,hxe⟩:=List.mem_flatten.1 hx
   rw[(List.mem_replicate.1 he).2]at hxe
   exact Ma (SB hz x hxe) 20
  ·exact XH (AhE.1 hsh y hy) (fun r hr=>List.mem_flatMap.2 ⟨y,hy,hr⟩) hl hx 20
 have hLI:=SF hok hcl (FE hl) hin hR
 obtain⟨N,U⟩:=J.allocI (Gw.alloc w (.cells C' e) none) (by simp)
 have hst:=Stp.trans (M1:={ M with H:=H' }) Z (fun d hd=>.inl ⟨d,hd,rfl⟩) U
 have hUI:=Jv hl hU
 have hll:=(optMap_get hl).1
 have hln:l.length<=maxLen:=by
  have:n*1<=n*s:=Nat.mul_le_mul_left _ E
  unfold maxLen;omega
 have u:LI (w.alloc (.cells C' e)) (Ahk (Sof S ρ M.H (· ∈ vs.flatMap Dv)) w) l.flatten C'.toList:=hLI.mono (fun b hb=>heap_alloc_old w _ b (J.lt b hb)) (fun b hb=>.inl hb)
 have hCl:=u.len
 rw[hUI.len]at hCl
 have hI:=RepI.ofRow (ρ:=ρ) (H:=H') (S:=Ahk (Sof S ρ M.H (· ∈ vs.flatMap Dv)) w) (b:=w.heap.size) (cap:=l.length) (.inr rfl) (heap_alloc_new w (.cells C' e)) hUI (by rw[AhJ (by omega)];exact u.toL) (Ahu _) hln
 refine⟨.value (.slice (some ⟨w.heap.size,0,none⟩) n n),_,w.alloc (.cells C' e),_,ρ,β,by simp[execOp,ho,W],.inl rfl,N,hst,RepX.ofV ?_,fun _ _=>rfl,fun d hd=>.inl ⟨d,hd,rfl⟩⟩
 rw[<-Y,<-hll]
 exact .ls l _ hI
end
end Go.Mx
namespace Go.Mx
section
variable {P:Program} {w w1 w2:World} {S S1 S2:Nat->Prop} {ρ ρ1 ρ2 β β1:Nat->Nat} {M M1 M':Mem} {H H2:Hp} {o:Oper} {a:Act} {vs:List V} {v:V} {call:Bt}
structure Src (P:Program)(w:World)(size m:Nat)(x:Value)(news:List Value):Prop where
 len:Builtin.lenOf x=pure m
 get:∀w':World,w'.heap=w.heap->(Builtin.firstCells size m x).run P w'=.ok news.toArray w'
theorem TV {w w':World}(h:w'.heap=w.heap)(p:Addr):w'.cell? p=w.cell? p:=World.cell?_of_block (by rw[h])
variable {size cap off:Nat}
theorem Src.slice {m b:Nat}{news:List Value}(hl:news.length=m*size)(N:∀(j:Nat) u,news[j]? = some u->w.cell? ⟨b,off+j,none⟩=some u):Src P w size m (.slice (some ⟨b,off,none⟩) m cap) news :=
 ⟨rfl,fun w' J=>run_firstCells_some w' size m _ m cap news hl fun j u E=>by rw[TV J,By];exact N j u E⟩
theorem Src.slice' {m len b:Nat}{news:List Value}(hl:news.length=m*size)(E:len=m)(J:∀(j:Nat) u,news[j]? = some u->w.cell? ⟨b,off+j,none⟩=some u):Src P w size m (.slice (some ⟨b,off,none⟩) len cap) news:=by
 subst E
 exact Src.slice hl J
theorem Src.none {size cap:Nat}{ad:Option Addr}:Src P w size 0 (.slice ad 0 cap) [] :=
 ⟨rfl,fun w' _=>by
  cases ad with
  | none=>simp[Builtin.firstCells]
  | some p=>simp[Builtin.firstCells,loadCells,loadCellsFrom]⟩
theorem Src.string (s:ByteArray):Src P w size s.size (.string s) (Lib.strCells s) :=
 ⟨rfl,fun w' _=>Lib.run_firstCells_string w' size s⟩
section
variable {ts:Array TypeId} {ty t t1 e:TypeId} {u1:TypeDesc} {i:TypeInfo} {z x:Value} {m:Nat} {news:List Value}
variable {sLen sCap:Nat}
theorem XS (h0:ts[0]? = some t)(h1:ts[1]? = some t1)(ht:P.underlying t=some (.slice e))(W:P.underlying t1=some u1)(Z:(∃Y,u1=.slice Y)\/u1=.string)(hi:P.info? e=some i) 
  (hs:Src P w i.size m x news) (hl:news.length=m*i.size) {g:Nat} {cur:Array Value} {T:TypeId} {mk:Nat×Nat} (hg:w.heap[g]? = some (.cells cur T mk)) (hw:Win cur.size mk) (U:∀u,u∈news->u.oneCell'=true) (E:sLen+m<=sCap) (J:sLen*i.size+news.length<=cur.size) :
  (Builtin.append_ ts ty #[.slice (some ⟨g,0,none⟩) sLen sCap,x]).run P w =
   .ok (.slice (some ⟨g,0,none⟩) (sLen+m) sCap) (w.setRow g (cur.toList.take (sLen*i.size)++news++cur.toList.drop (sLen*i.size+news.length)).toArray):=by
 have hf:=hs.get w rfl
 have N:=Cr P g (sLen*i.size) T mk news 0 cur w hg hw (by simpa using J) U
 simp only[Nat.add_zero]at N
 rcases Z with ⟨Y,rfl⟩|rfl <;> simp[Builtin.append_,h0,h1,run_underlying ht,run_underlying W,AR hi,hs.len,E,hf,Addr.add_lit,N]
variable {ad:Option Addr}
theorem XT (U:ts[0]? = some t)(Z:ts[1]? = some t1)(N:P.underlying t=some (.slice e))(E:P.underlying t1=some u1)(W:(∃J,u1=.slice J)\/u1=.string)(hi:P.info? e=some i) 
  (hs:Src P w i.size 0 x []) (u:sLen<=sCap) :
  (Builtin.append_ ts ty #[.slice ad sLen sCap,x]).run P w=.ok (.slice ad sLen sCap) w:=by
 have Y:=hs.get w rfl
 rcases W with ⟨J,rfl⟩|rfl <;> cases ad <;> simp[Builtin.append_,U,Z,run_underlying N,run_underlying E,AR hi,hs.len,u,Y,storeCells]
theorem PR (h0:ts[0]? = some t)(h1:ts[1]? = some t1)(ht:P.underlying t=some (.slice e))(E:P.underlying t1=some u1)(hn:(∃Z,u1=.slice Z)\/u1=.string)(hi:P.info? e=some i)(hz:i.zero=some z) 
  (hs:Src P w i.size m x news) {olds:List Value} (ho:Src P w i.size sLen (.slice ad sLen sCap) olds) (hg:sCap<sLen+m) (W:sLen+m<=maxLen) (J:(sLen+m)*i.bytes<=140737488355328) :
  (Builtin.append_ ts ty #[.slice ad sLen sCap,x]).run P w =
   .ok (.slice (some ⟨w.heap.size,0,none⟩) (sLen+m) (grownCap w (sLen+m) sCap e)) (w.drew.alloc (.cells (olds.toArray++news.toArray++Builtin.zeroCells z.cells (grownCap w (sLen+m) sCap e-(sLen+m))) e)):=by
 have Y:¬(sLen+m<=sCap):=by omega
 have u:¬(9223372036854775807<((sLen:Int)+(m:Int))):=by unfold maxLen at W;omega
 have a0:=growslice_fits hg J
 have U:¬(281474976710656<Builtin.nextslicecap (sLen+m) sCap*i.bytes):=by omega
 have hf:=hs.get w.drew rfl
 have N:=ho.get w.drew rfl
 rcases hn with ⟨Z,rfl⟩|rfl <;> simp[Builtin.append_,h0,h1,run_underlying ht,run_underlying E,AR hi,Lw hi,Br hi hz,hs.len,Y,u,U,Question.forced,hf,N,grownCap,Gy] <;> rw[<-Array.append_assoc,show olds.toArray++news.toArray=(olds++news).toArray by simp]
end
theorem Lq (s:ByteArray):Lib.strCells s=(s.data.toList.map UInt8.toNat).map fun c:Nat=>Value.int .u8 (c:Int):=by
 simp[Lib.strCells]
variable {c:Value}
theorem Nw {x:V}{xs:L0}(J:Ok w S ρ β M)(hx:RepX w S ρ β M.H x c)(h:elems M.H x=some xs)(esz:Nat)(Z:Uni esz xs):∃news,Src P w esz xs.length c news/\news.length=xs.length*esz/\RepL w S ρ M.H xs.flatten news:=by
 obtain⟨ad,cap,W,cells,rfl,a0,U,Y⟩:=IB J hx h
 have N:cells.length=xs.length*esz:=by rw[U.1,Z.len]
 by_cases E:xs=[]
 ·subst E
  have:cells=[]:=AhT (by simpa using N)
  subst this
  exact⟨[],Src.none,by simp,U⟩
 ·obtain⟨b,off,rfl,u,_⟩:=Y E
  exact⟨cells,Src.slice N u,N,U⟩
theorem AaC {l:List Nat}(E:RepX w S ρ β M.H (.m (.s l)) c)(esz:Nat)(J:esz=1):∃news,Src P w esz (l.map fun c:Nat=>[V.m (.i .u8 (Int.ofNat c))]).length c news/\news.length=(l.map fun c:Nat=>[V.m (.i .u8 (Int.ofNat c))]).length*esz /\
  RepL w S ρ M.H (l.map fun c:Nat=>[V.m (.i .u8 (Int.ofNat c))]).flatten news:=by
 subst J
 obtain⟨s,rfl,rfl⟩:=Ej (RepX.toV rfl E)
 refine⟨Lib.strCells s,by simpa using Src.string s,by simp[Lib.strCells_length],?_⟩
 rw[Lq]
 generalize s.data.toList.map UInt8.toNat=l
 induction l with
 | nil=>exact .nil
 | cons c l u=>exact .cons (.m (.i .u8 _)) u
theorem SC (z:Array Value)(n:Nat):(Builtin.zeroCells z n).size=n*z.size:=size_zeroCells z n
theorem Oh {c:Go.Call}{t t1 e:TypeId}{u1:TypeDesc}{esz bytes:Nat}{z:Value}{i:TypeInfo}{x:Value}{xs es0:L0}{news olds:List Value}{ad:Option Addr}{sCap:Nat}{val:V}(ho:o.op=.call c)(hb:c.callee=.builtin .append)(h0:c.argTypes[0]? = some t)(h1:c.argTypes[1]? = some t1)(ht:P.underlying t=some (.slice e))(hu1:P.underlying t1=some u1)(hn:(∃e',u1=.slice e')\/u1=.string) 
  (hi:P.info? e=some i) (hz:i.zero=some z) (hzs:z.cells.size=i.size) (Z:i.size=esz) (hby:i.bytes=bytes) (hb1:1<=bytes) (hok:Ok w S ρ β M) (hm:c.args.map a.eval=#[.slice ad es0.length sCap,x])
  (hs:Src P w esz xs.length x news) (E:news.length=xs.length*esz) (hnr:RepL w S ρ M.H xs.flatten news) (hos:Src P w esz es0.length (.slice ad es0.length sCap) olds) (N:olds.length=es0.length*esz) (hor:RepL w S ρ M.H es0.flatten olds)
  (hg:sCap<es0.length+xs.length) (he:Bs M e esz bytes (es0++xs)=some (val,M')) :
  Outc w S ρ β M (.l (.app e esz bytes)) val M' ((execOp a.eval o).run P w):=by
 subst Z;subst hby
 simp only[Bs,Ag,Ahs,Aid,Aho,Ahp,AhE,AhL]at he
 obtain⟨⟨⟨a1,Y⟩,a2⟩,rfl,rfl⟩:=he
 rw[AhF]at a1
 have h47:es0.length+xs.length<=140737488355328:=by
  have:(es0.length+xs.length)*1<=(es0.length+xs.length)*i.bytes:=Nat.mul_le_mul_left _ hb1
  omega
 have a3:es0.length+xs.length<=maxLen:=by unfold maxLen;omega
 have W:=PR (P:=P) (w:=w) (ty:=o.type) h0 h1 ht hu1 hn hi hz hs hos hg a3 a1
 have hU:Uni i.size (es0++xs):=fun e he=>(a2 e he).1
 have U:=grownCap_le_maxLen w _ sCap e a3
 have a0:=grownCap_ge w (es0.length+xs.length) sCap e
 have u:(olds.toArray++news.toArray++Builtin.zeroCells z.cells (grownCap w (es0.length+xs.length) sCap e-(es0.length+xs.length))).size=grownCap w (es0.length+xs.length) sCap e*i.size:=by
  simp only[Array.size_append,List.size_toArray,SC,hzs,N,E,<-Aif]
  congr 1
  omega
 have hh:=heap_alloc_new w.drew (.cells (olds.toArray++news.toArray++Builtin.zeroCells z.cells (grownCap w (es0.length+xs.length) sCap e-(es0.length+xs.length))) e)
 refine ND (cap:=grownCap w (es0.length+xs.length) sCap e) (c:=.slice (some ⟨w.heap.size,0,none⟩) (es0.length+xs.length) (grownCap w (es0.length+xs.length) sCap e)) (w':=w.drew.alloc (.cells (olds.toArray++news.toArray++Builtin.zeroCells z.cells (grownCap w (es0.length+xs.length) sCap e-(es0.length+xs.length))) e)) hok Y hU (Es w _) (by simp) hh (by simpa using a0) U u ?_ (AD ho hb (fun _=>by rw[hm];rfl) W) (fun ρ' J=>?_)
 ·have:(olds.toArray++news.toArray++Builtin.zeroCells z.cells (grownCap w (es0.length+xs.length) sCap e-(es0.length+xs.length))).toList.take ((es0++xs).length*i.size)=olds++news:=by
   simp only[Array.toList_append,AhF]
   rw[List.take_append_of_le_length (by simp;rw[N,E,Aif];omega),AhJ (by simp;rw[N,E,Aif];omega)]
  rw[this,List.flatten_append]
  exact hor.append hnr
 ·rw[AhF]
  exact .sl M.H.length (es0.length+xs.length) i.size 0 (es0.length+xs.length) false e (es0++xs) 0 false _ _ (Kj _ _) (by omega) (by simp) a0 U (fun h=>by cases h) ⟨_,rfl⟩ (fun _ _=>⟨w.heap.size,by simp,.inl J.symm⟩) (fun _ _ _ _=>⟨by rw[J],_,(0,0),by rw[J];exact hh,u⟩)
end
end Go.Mx
namespace Go.Mx
section
variable {P:Program} {w:World} {S:Nat->Prop} {ρ β:Nat->Nat} {M M':Mem} {H:Hp} {o:Oper} {a:Act} {vs:List V} {v:V} {call:Bt}
variable {w':World}
theorem Mh {w:World}{row:Option Nat}(h:Gw w w' none):Gw w w' row:=⟨⟨h.os,h.tape,h.output,h.size,fun k u _=>h.block k u (by simp)⟩,h.drawn⟩
variable {ty esz base cap:Nat} {xs:L0} {cur:Array Value} {news:List Value} {mk:Nat×Nat}
theorem AbL {r:Nat}{es:L0}(a3:Ok w S ρ β M)(u:M.H[r]? = some (.cs ty esz es base false))(hh:w.heap[ρ r]? = some (.cells cur ty mk))(hw:Win cur.size mk) 
  (hU:Uni esz xs) (a2:xs≠[]) (hcap:cur.size=cap*esz) (hle:es.length+xs.length<=cap) (a5:cap<=maxLen) (hnl:news.length=xs.length*esz) (hr:RepL w S ρ M.H es.flatten (cur.toList.take (es.length*esz))) (hn:RepL w S ρ M.H xs.flatten news) :
  Ok (w.setRow (ρ r) (cur.toList.take (es.length*esz)++news++cur.toList.drop (es.length*esz+news.length)).toArray) S ρ β { M with H:=M.H.set r (.cs ty esz (es++xs) base false) } /\
   Stp w S ρ β M (w.setRow (ρ r) (cur.toList.take (es.length*esz)++news++cur.toList.drop (es.length*esz+news.length)).toArray) S ρ (M.H.set r (.cs ty esz (es++xs) base false)):=by
 obtain⟨hb,Y,J,_,hns,_⟩:=a3.rows r _ u
 have J:Uni esz es:=J
 have N:=hns rfl
 have hxl:0<xs.length:=AiX.2 a2
 have W:(es.length+xs.length)*esz<=cap*esz:=Aip _ hle
 rw[Aif]at W
 have a4:(cur.toList.take (es.length*esz)++news++cur.toList.drop (es.length*esz+news.length)).toArray.size=cur.size:=by
  simp only[List.size_toArray,AhF,AhH,Aie,Aih]
  omega
 have Z:=setRow_heap w (ρ r) cur (cur.toList.take (es.length*esz)++news++cur.toList.drop (es.length*esz+news.length)).toArray ty mk hh
 have E:∀j,j<es.length*esz->(w.setRow (ρ r) (cur.toList.take (es.length*esz)++news++cur.toList.drop (es.length*esz+news.length)).toArray).cell? ⟨ρ r,j,none⟩=w.cell? ⟨ρ r,j,none⟩:=fun j hj=>by
  rw[cell_of_row _ _ j _ ty _ Z,cell_of_row _ _ j cur ty _ hh]
  have h1:j<(cur.toList.take (es.length*esz)++news).length:=by
   simp only[AhF,AhH,Aih];omega
  have h2:j<(cur.toList.take (es.length*esz)).length:=by
   simp only[AhH,Aih];omega
  rw[List.getElem?_toArray,AhM h1,AhM h2,AhX,Ahv hj]
  simp
 have U:=Ok.setRow (w':=w.setRow (ρ r) (cur.toList.take (es.length*esz)++news++cur.toList.drop (es.length*esz+news.length)).toArray) (S':=S) (g:=ρ r) (row':=.cs ty esz (es++xs) base false) a3 u (EK w _ _) (.inl rfl) (fun _ h=>h) (fun b h=>.inl h)
  (fun b hb=>setRow_other w _ b _ (fun e=>N (e ▸ hb)))
  (fun ty1 esz1 es1 a6 fz1 e=>by
   cases e
   refine⟨es++xs,base,false,rfl,by simp,Ahu _,fun b a7 h1 h2 hA=>?_,fun e=>by simp at e;exact absurd e a2⟩
   rcases hA with hA|⟨a1,hv,hc⟩
   ·exact .inl hA
   ·refine .inr ⟨a1,by rw[AhF];omega,fun j hj=>?_⟩
    have:a7*esz<=es.length*esz:=Aip _ h1
    rw[E j (by omega),World.cell?_of_block (a:=⟨b,j,none⟩) (setRow_other w (ρ r) b _ (fun e=>N (e ▸ a1)))]
    exact hc j hj)
  (fun es1 fz1 e=>by cases e)
  (fun a0=>by
   rw[Jl]at a0 ⊢
   refine⟨by simp;omega,Y,J.append hU,fun e=>(by cases e),fun _=>N,_,cap,mk,Z,fun _=>(by rw[a4];exact hw),by omega,by simp;omega,a5,?_⟩
   have:(cur.toList.take (es.length*esz)++news++cur.toList.drop (es.length*esz+news.length)).toArray.toList.take ((es++xs).length*esz)=cur.toList.take (es.length*esz)++news:=by
    rw[List.toList_toArray,AhF,Aif,List.take_append_of_le_length (by simp only[AhF,AhH,Aih];omega),
     AhJ (by simp only[AhF,AhH,Aih];omega)]
   rw[this,List.flatten_append]
   exact(hr.append hn).mono a0)
 rw[Jl]at U
 exact U
theorem Xs {r:Nat}{es:L0}{arr:Array Value}{u:Nat}(E:Ok w S ρ β M)(N:M.H[r]? = some (.cs ty esz es base false))(hh:w.heap[ρ r]? = some (.cells cur ty mk)) 
  (hU:Uni esz xs) (a4:xs≠[]) (hcap:cur.size=cap*esz) (a6:es.length<=cap) (hnl:news.length=xs.length*esz) (hr:RepL w S ρ M.H es.flatten (cur.toList.take (es.length*esz))) (hn:RepL w S ρ M.H xs.flatten news)
  (hg:Gw w w' none) (W:w'.heap[w.heap.size]? = some (.cells arr ty (0,0))) (a1:arr.size=u*esz) (hle:es.length+xs.length<=u) (hcm:u<=maxLen) (U:arr.toList.take ((es.length+xs.length)*esz)=cur.toList.take (es.length*esz)++news) :
  Ok w' (fun b=>S b\/b=ρ r) (fun k=>if k=r then w.heap.size else ρ k) β { M with H:=M.H.set r (.cs ty esz (es++xs) base false) } /\
   Stp w S ρ β M w' (fun b=>S b\/b=ρ r) (fun k=>if k=r then w.heap.size else ρ k) (M.H.set r (.cs ty esz (es++xs) base false)):=by
 obtain⟨hb,a3,Y,_,hns,_⟩:=E.rows r _ N
 have Y:Uni esz es:=Y
 have hnS:=hns rfl
 have hxl:0<xs.length:=AiX.2 a4
 have hrl:=(Ahq.1 N).1
 have a5:=E.rlt hrl
 have hmul:es.length*esz<=cap*esz:=Aip _ a6
 have Z:∀b,b<w.heap.size->w'.heap[b]? = w.heap[b]?:=fun b hb=>hg.block b hb (by simp)
 have J:∀j,j<es.length*esz->w'.cell? ⟨w.heap.size,j,none⟩=w.cell? ⟨ρ r,j,none⟩:=fun j hj=>by
  rw[cell_of_row _ _ j _ ty _ W,cell_of_row _ _ j cur ty _ hh]
  have h2:j<(cur.toList.take (es.length*esz)).length:=by
   simp only[AhH,Aih];omega
  have h3:(arr.toList.take ((es.length+xs.length)*esz))[j]? = (cur.toList.take (es.length*esz)++news)[j]?:=by rw[U]
  rw[AhX,Ahv (by rw[Aif];omega),AhM h2,AhX,Ahv hj]at h3
  simpa using h3
 refine Ok.setRow (w':=w') (S':=fun b=>S b\/b=ρ r) (g:=w.heap.size) (row':=.cs ty esz (es++xs) base false) E N (Mh hg) (.inr (Ahu _)) (fun _ h=>.inl h) (fun b h=>h)
  (fun b hb=>Z b (E.lt b hb))
  (fun ty1 esz1 es1 base1 fz1 e=>by
   cases e
   refine⟨es++xs,base,false,rfl,by simp,Ahu _,fun b ver h1 h2 hA=>?_,fun e=>by simp at e;exact absurd e a4⟩
   have hm2:ver*esz<=es.length*esz:=Aip _ h1
   rcases hA with hA|⟨a0,hv,hc⟩
   ·subst hA
    refine .inr ⟨.inr rfl,by rw[AhF];omega,fun j hj=>?_⟩
    rw[J j (by omega)]
    exact World.cell?_of_block (a:=⟨ρ r,j,none⟩) (Z _ a5)
   ·refine .inr ⟨.inl a0,by rw[AhF];omega,fun j hj=>?_⟩
    rw[J j (by omega),World.cell?_of_block (a:=⟨b,j,none⟩) (Z b (E.lt b a0))]
    exact hc j hj)
  (fun es1 fz1 e=>by cases e)
  (fun hto=>?_)
 have a2:(if r=r then w.heap.size else ρ r)=w.heap.size:=Ahv rfl
 refine⟨by simp;omega,a3,Y.append hU,fun e=>(by cases e),fun _=>?_,arr,u,(0,0),by simpa[a2]using W,fun _=>.inl rfl,a1,by simpa using hle,hcm,?_⟩
 ·show ¬(S (if r=r then w.heap.size else ρ r)\/(if r=r then w.heap.size else ρ r)=ρ r)
  rw[a2]
  rintro (h|h)
  ·have:=E.lt _ h;omega
  ·omega
 ·rw[AhF,U,List.flatten_append]
  exact(hr.append hn).mono hto
variable {cs:Value}
theorem Rn {s:V}(h:RepX w S ρ β H s cs)(hs:(∃l,s=.m (.sl l))\/(∃l,s=.ls l)\/s=.m (.nl 4) \/ ∃r ver esz st len lim,s=.sl r ver esz st len lim):∃ad n cap,cs=.slice ad n cap/\n<=cap:=by
 rcases hs with ⟨l,rfl⟩|⟨l,rfl⟩|rfl|⟨r,ver,esz,st,len,lim,rfl⟩
 ·obtain⟨ad,cap,rfl,u,_⟩:=Eg (RepX.toV rfl h).imm
  exact⟨ad,_,cap,rfl,u⟩
 ·have h:=RepX.toV rfl h
  cases h
  exact⟨_,_,_,rfl,Ahu _⟩
 ·have:=EX (RepX.toV rfl h)
  exact⟨_,_,_,this,Ahu _⟩
 ·have h:=RepX.toV rfl h
  cases h
  exact⟨_,_,_,rfl,‹_›⟩
variable {c:Go.Call} {t t1 e:TypeId} {u1:TypeDesc} {bytes:Nat}
theorem PS {z:Value}{i:TypeInfo}{x:Value}{s val:V}(ho:o.op=.call c)(hb:c.callee=.builtin .append)(h0:c.argTypes[0]? = some t)(h1:c.argTypes[1]? = some t1)(ht:P.underlying t=some (.slice e))(a7:P.underlying t1=some u1)(hn:(∃e',u1=.slice e')\/u1=.string) 
  (hi:P.info? e=some i) (hz:i.zero=some z) (b3:z.cells.size=i.size) (Y:i.size=esz) (b2:i.bytes=bytes) (hpos:1<=esz) (b1:1<=bytes) (a2:Ok w S ρ β M) (hm:c.args.map a.eval=#[cs,x]) (h:RepX w S ρ β M.H s cs)
  (hs:Uni esz xs -> ∃news,Src P w esz xs.length x news/\news.length=xs.length*esz/\RepL w S ρ M.H xs.flatten news)
  (W:Et M e esz bytes s xs=some (val,M')):Outc w S ρ β M (.l (.app e esz bytes)) val M' ((execOp a.eval o).run P w):=by
 unfold Et at W
 split at W
 ·have hU:Uni esz ([]:L0):=fun y hy=>by simp at hy
  obtain⟨news,J,U,_⟩:=hs hU
  have:news=[]:=AhT (by simpa using U)
  subst this
  have hf:s=val/\M=M'/\((∃l,s=.m (.sl l))\/(∃l,s=.ls l)\/s=.m (.nl 4) \/ ∃r ver esz st len lim,s=.sl r ver esz st len lim):=by
   split at W <;> first|(cases W;done)|(simp only[Aho,Ahp]at W;exact⟨W.1,W.2,by simp⟩)
  obtain⟨rfl,rfl,hf⟩:=hf
  obtain⟨ad,n,cap,rfl,hle⟩:=Rn h hf
  subst Y
  exact .val a2 h (AD ho hb (fun _=>by rw[hm];rfl) (XT h0 h1 ht a7 hn hi J hle))
 ·rename_i y ys
  generalize hxs:y::ys=xs at W hs
  have hne:xs≠[]:=by rw[<-hxs];simp
  have hxl:0<xs.length:=AiX.2 hne
  have a6:∀ {l:L0} {q:V×Mem},Bs M e esz bytes l=some q->Uni esz l:=fun {l q} h=>by
   simp only[Bs,Ag,Ahs,AhE,AhL]at h
   exact fun e W=>(h.1.2 e W).1
  split at W
  ·have hc:=EX (RepX.toV rfl h)
   subst hc
   obtain⟨news,J,U,a0⟩:=hs (a6 W)
   exact Oh (es0:=[]) (olds:=[]) ho hb h0 h1 ht a7 hn hi hz b3 Y b2 b1 a2 hm J U a0 Src.none (by simp) .nil (by simpa using hxl) W
  ·rename_i E
   have hU:=a6 W
   have a5:Uni esz xs:=fun q hq=>hU q (List.mem_append_right _ hq)
   have hUe:Uni esz (Bn E):=fun q hq=>hU q (List.mem_append_left _ hq)
   obtain⟨news,J,U,a0⟩:=hs a5
   obtain⟨olds,a4,a3,hor⟩:=Nw (P:=P) a2 h (show elems M.H (.ls E)=some (Bn E) from rfl) esz hUe
   have h':=RepX.toV rfl h
   cases h' with|ls _ ad hI =>
   rw[<-immS_len E]at hm a4
   exact Oh (es0:=Bn E) ho hb h0 h1 ht a7 hn hi hz b3 Y b2 b1 a2 hm J U a0 a4 a3 hor (by omega) W
  ·rename_i r ver esz0 st len lim
   simp only[Ahn,AU]at W
   obtain⟨row,Z,W⟩:=W
   split at W
   ·rename_i ty' esz' E base fz
    split at W
    ·simp only[Ag,Ahs,Aid,AhL]at W
     obtain⟨⟨⟨hbv,rfl⟩,rfl⟩,W⟩:=W
     have hU:=a6 W
     have a5:Uni esz xs:=fun q hq=>hU q (List.mem_append_right _ hq)
     have hUe:Uni esz ((E.drop st).take len):=fun q hq=>hU q (List.mem_append_left _ hq)
     obtain⟨news,J,U,a0⟩:=hs a5
     have hel:elems M.H (.sl r ver esz st len true)=some ((E.drop st).take len):=by
      simp only[elems,AU,Z,Ahz,Nat.beq_refl,Bool.and_true,Ag,Aid,and_true]
      exact hbv
     obtain⟨olds,a4,a3,hor⟩:=Nw (P:=P) a2 h hel esz hUe
     have h':=RepX.toV rfl h
     cases h' with|sl _ _ _ _ _ _ ty2 es2 base2 fz2 ad cap N g1 g2 g3 g4 g5 gn gb ga =>
     rw[Z]at N
     simp only[Aho,Row.cs.injEq]at N
     obtain⟨rfl,_,rfl,rfl,rfl⟩:=N
     have hcl:=g5 rfl
     subst hcl
     have a9:((E.drop st).take cap).length=cap:=by rw[AhH,Aie];omega
     rw[a9]at a4
     exact Oh (es0:=(E.drop st).take cap) (olds:=olds) (sCap:=cap) (ad:=ad) ho hb h0 h1 ht a7 hn hi hz b3 Y b2 b1 a2 (by rw[a9];exact hm) J U a0 (by rw[a9];exact a4) a3 hor (by omega) W
    ·simp only[Ag,Ahs,Aid,AhL,Aia,Ahn,Aho,Ahp,AhE]at W
     obtain⟨⟨⟨⟨⟨⟨⟨⟨⟨rfl,rfl⟩,rfl⟩,hz0⟩,rfl⟩,rfl⟩,rfl⟩,hbs⟩,hall⟩,H',hH',rfl,rfl⟩:=W
     have hz0:=hz0.symm
     subst hz0
     obtain⟨hrl,rfl⟩:=Bw hH'
     have a5:Uni esz xs:=fun q hq=>(hall q hq).1
     obtain⟨news,J,U,a0⟩:=hs a5
     have h':=RepX.toV rfl h
     cases h' with|sl _ _ _ _ _ _ ty2 es2 base2 fz2 ad cap N g1 g2 g3 g4 g5 gn gb ga =>
     rw[Z]at N
     simp only[Aho,Row.cs.injEq]at N
     obtain⟨rfl,_,rfl,rfl,rfl⟩:=N
     obtain⟨rfl,cur,mk,hh,hcs⟩:=ga rfl rfl rfl rfl
     obtain⟨hbl,_,hU0,_,hns,cur',cap',mk',hh',b4,hcs',hcap,hcm,hr⟩:=a2.rows r _ Z
     rw[hh]at hh'
     simp only[Aho,Obj.cells.injEq]at hh'
     obtain⟨rfl,_,rfl⟩:=hh'
     have b4:=b4 rfl
     have hone:∀u,u∈news->u.oneCell'=true:=Ik (by
      rw[AhE]
      intro y hy
      obtain⟨l,hl,hyl⟩:=List.mem_flatten.1 hy
      exact(hall l hl).2 y hyl) a0
     have hmul:cap=cap':=Nat.eq_of_mul_eq_mul_right hpos (by rw[<-hcs,hcs'])
     subst hmul
     by_cases a1:E.length+xs.length<=cap
     ·have hm2:(E.length+xs.length)*esz<=cap*esz:=Aip _ a1
      rw[Aif]at hm2
      subst Y
      have a8:=XS (ty:=o.type) h0 h1 ht a7 hn hi J U hh b4 hone a1 (by omega)
      obtain⟨a',hst⟩:=AbL a2 Z hh b4 a5 hne hcs a1 hcm U hr a0
      refine⟨_,.slice (some ⟨ρ r,0,none⟩) (E.length+xs.length) cap,_,_,_,_,AD ho hb (fun _=>by rw[hm];rfl) a8,.inl rfl,a',hst,RepX.ofV ?_,fun _ _=>rfl,fun d hd=>.inl ⟨d,hd,rfl⟩⟩
      refine .sl r _ _ 0 _ false e (E++xs) base false _ cap (by simp[hrl]) (by omega) (by simp) a1 hcm (fun h=>by cases h) ⟨_,rfl⟩ (fun _ _=>⟨ρ r,by simp,.inl rfl⟩) (fun _ _ _ _=>⟨rfl,_,mk,setRow_heap w (ρ r) cur _ e mk hh,?_⟩)
      simp only[List.size_toArray,AhF,AhH,Aie,Aih]
      omega
     ·have h47:E.length+xs.length<=140737488355328:=by
       have:(E.length+xs.length)*1<=(E.length+xs.length)*bytes:=Nat.mul_le_mul_left _ b1
       omega
      have h63:E.length+xs.length<=maxLen:=by unfold maxLen;omega
      have a3:(cur.toList.take (E.length*esz)).length=E.length*esz:=by
       have:E.length*esz<=cap*esz:=Aip _ hcap
       simp only[AhH,Aih];omega
      have a4:Src P w esz E.length (.slice (some ⟨ρ r,0,none⟩) E.length cap) (cur.toList.take (E.length*esz)):=Src.slice' a3 rfl fun j u hj=>by
       rw[Air,cell_of_row w _ j cur e _ hh]
       rw[AhX]at hj
       split at hj
       ·simpa using hj
       ·cases hj
      subst Y;subst b2
      have a8:=PR (P:=P) (w:=w) (ty:=o.type) h0 h1 ht a7 hn hi hz J a4 (by omega) h63 hbs
      have hcm':=grownCap_le_maxLen w (E.length+xs.length) cap e h63
      have hge:=grownCap_ge w (E.length+xs.length) cap e
      have hnew:=heap_alloc_new w.drew (.cells ((cur.toList.take (E.length*i.size)).toArray++news.toArray++Builtin.zeroCells z.cells (grownCap w (E.length+xs.length) cap e-(E.length+xs.length))) e)
      have b0:((cur.toList.take (E.length*i.size)).toArray++news.toArray++Builtin.zeroCells z.cells (grownCap w (E.length+xs.length) cap e-(E.length+xs.length))).size=grownCap w (E.length+xs.length) cap e*i.size:=by
       simp only[Array.size_append,List.size_toArray,SC,b3,a3,U,<-Aif]
       congr 1
       omega
      obtain⟨a',hst⟩:=Xs (w':=w.drew.alloc _) a2 Z hh a5 hne hcs hcap U hr a0 (Es w _) hnew b0 hge hcm' (by
       simp only[Array.toList_append]
       rw[List.take_append_of_le_length (by simp only[AhF,a3,U,Aif];omega),AhJ (by simp only[AhF,a3,U,Aif];omega)])
      refine⟨_,_,_,_,_,_,AD ho hb (fun _=>by rw[hm];rfl) a8,.inl rfl,a',hst,RepX.ofV ?_,fun _ _=>rfl,fun d hd=>.inl ⟨d,hd,rfl⟩⟩
      exact .sl r _ _ 0 _ false e (E++xs) base false _ _ (by simp[hrl]) (by omega) (by simp) hge hcm' (fun h=>by cases h) ⟨_,rfl⟩ (fun _ _=>⟨w.heap.size,by simp,.inl (by simp)⟩) (fun _ _ _ _=>⟨by simp,_,(0,0),by simpa using hnew,b0⟩)
   ·cases W
  ·cases W
theorem SV {zs:List V}(ho:o.op=.call c)(hb:c.callee=.builtin .append)(h0:c.argTypes[0]? = some t)(h1:c.argTypes[1]? = some t1)(ht:P.underlying t=some (.slice e))(Z:P.underlying t1=some u1)(hn:(∃e',u1=.slice e')\/u1=.string) 
  (hz:Dw P e=some zs) (hs:BD P e=some esz) (hby:JJ P e=some bytes) (E:1<=esz) (W:1<=bytes):S6 o a P w S ρ β M vs v M' call (.app e esz bytes) (c.args.toList.map a.eval):=fun N hv u=>by
 obtain⟨i,z,hi,a0,a2,_⟩:=CG hz
 obtain⟨i',hi',Y⟩:=AP.1 hs
 obtain⟨i'',J,a1⟩:=IG.1 hby
 rw[hi]at hi' J
 cases hi';cases J
 match vs,u with
 | [s,x],u =>
  obtain⟨cs,cx,U,h,hx⟩:=hv.inv2
  have hm:=Acc U
  simp only[An]at u
  split at u
  ·rename_i l
   refine PS ho hb h0 h1 ht Z hn hi a0 a2 Y a1 E W N hm h (fun hU=>?_) u
   cases l with
   | nil =>
    obtain⟨s,rfl,hl⟩:=Ej (RepX.toV rfl hx)
    have h0:s.size=0:=by
     have:=AiO List.length hl
     simpa using this
    have:=Src.string (P:=P) (w:=w) (size:=esz) s
    have hc:Lib.strCells s=[]:=AhT (by rw[Lib.strCells_length];exact h0)
    rw[h0,hc]at this
    exact⟨[],this,by simp,.nil⟩
   | cons d l =>
    have h1:esz=1:=by have:=hU [V.m (.i .u8 (Int.ofNat d))] (by simp);simpa using this.symm
    exact AaC hx esz h1
  ·simp only[Ahn]at u
   obtain⟨xs,hxs,u⟩:=u
   exact PS ho hb h0 h1 ht Z hn hi a0 a2 Y a1 E W N hm h (fun hU=>Nw N hx hxs esz hU) u
end
end Go.Mx
namespace Go.Mx
section
variable {P:Program} {w:World} {S:Nat->Prop} {ρ β:Nat->Nat} {M M':Mem} {H:Hp} {o:Oper} {a:Act} {vs:List V} {v:V} {call:Bt} {hi:Hint} {gl:Nat->Option (List I)} {rd:Option Nat}
def GlOk (gl:Nat->Option (List I))(w:World)(S:Nat->Prop):Prop:=∀g cs,gl g=some cs->RepI w S (.pt cs) (.pointer (some ⟨g,0,none⟩))
theorem GlOk.step {w':World}{S':Nat->Prop}{ρ':Nat->Nat}{H':Hp}(h:GlOk gl w S)(k:Stp w S ρ β M w' S' ρ' H'):GlOk gl w' S':=fun g cs u=>k.imm (h g cs u)
def Hq (P : Program) (f : Nat) : Prop := ∃ fn, P.funcs[f]? = some fn /\ (fn.name == "runtime.NumGoroutine") = false /\ fn.body.isNone = false
def Nr (w:World)(S:Nat->Prop)(ρ β:Nat->Nat)(M:Mem)(v:V)(H':Hp)(e:Ending)(w':World):Prop :=
 ∃c S' ρ',e=.returned c/\Ok w' S' ρ' β ⟨M.B,H'⟩/\Stp w S ρ β M w' S' ρ' H'/\RepV w' S' ρ' H' v c
def Du (P:Program)(gl:Nat->Option (List I))(call:Bt):Prop:=∀f vs H v H',call f vs H=some (v,H') ->
 (f≠yN->Hq P f /\ ∀(w:World) S ρ β B (args:Array Value),Ok w S ρ β ⟨B,H⟩->GlOk gl w S->All2 (RepX w S ρ β H) vs args.toList->Calls P f args w (Nr w S ρ β ⟨B,H⟩ v H')) /\
 (f=yN -> ∃r xs,vs=.yl r::xs /\ ∀(w:World) S ρ β B (args:Array Value),Ok w S ρ β ⟨B,H⟩->GlOk gl w S->All2 (RepX w S ρ β H) xs args.toList -> ∃rec:Loop,w.heap[ρ r]? = some (.loop rec)/\args.size=rec.params.size /\
  RoundIn Fence.wide 0 P (ρ r) rec.fn ((rec.params.zip args).foldl (fun tmps (t,a)=>tmps.setIfInBounds t a) rec.tmps) rec.assign rec.body w (Nr w S ρ β ⟨B,H⟩ v H'))
abbrev FW (rd:Option Nat):Fence:={ Fence.wide with round:=rd }
theorem Kd (u:∀c,o.op ≠ .defer c):o.semAt (FW rd).round a.eval=execOp a.eval o:=by
 cases rd with
 | none=>rfl
 | some l=>exact Oper.semAt_some l _ _ u
variable {f:Nat} {args:Array Value}
theorem JI {n:Nat}{R:Ending->World->Prop}(h:Calls P f args w R):CallsIn (FW rd) n P f args w R:=(callsIn_wide (n:=n)).2 h
structure Nxt (w:World)(S:Nat->Prop)(ρ β:Nat->Nat)(M:Mem)(q:O)(v:V)(M':Mem)(w':World)(S':Nat->Prop)(ρ' β':Nat->Nat)(c:Value):Prop where
 ok:Ok w' S' ρ' β' M'
 stp:Stp w S ρ β M w' S' ρ' M'.H
 rep:RepX w' S' ρ' β' M'.H v c
 own:∀d,dof q≠some d->β' d=β d
 box:∀d,(getB M'.B d).isSome->(∃q,(getB M.B q).isSome/\β' d=β q)\/w.heap.size<=β' d
variable {q:O} {next:Act->World->Prop} {Q:Exit->Act->World->Prop}
theorem Outc.wp (h:Outc w S ρ β M q v M' ((execOp a.eval o).run P w)) 
  (u:∀c,o.op ≠ .defer c) (E:∀w' S' ρ' β' c,Nxt w S ρ β M q v M' w' S' ρ' β' c->next (a.put o.dst c) w'):o.wpIn (FW rd) 0 P a w next Q:=by
 obtain⟨nx,c,w',S',ρ',β',hr,Z,Y,N,U,J,W⟩:=h
 refine⟨fun _ _=>Aii,?_⟩
 rw[Kd u,hr]
 rcases Z with rfl|⟨rfl,rfl⟩
 ·exact E _ _ _ _ _ ⟨Y,N,U,J,W⟩
 ·exact E _ _ _ _ _ ⟨Y,N,U,J,W⟩
variable {xs:List V}
theorem NZ {H':Hp}(U:f≠yN)(N:∀c,o.op ≠ .defer c)(hq:dof q=none)(u:Du P gl call)(E:Ok w S ρ β M)(W:GlOk gl w S)(hc:call f xs M.H=some (v,H')) 
  (hx:All2 (RepX w S ρ β M.H) xs args.toList) (hr:Hq P f->(execOp a.eval o).run P w=.ok (.enter f args) w)
  (Y:∀w' S' ρ' β' c,Nxt w S ρ β M q v { M with H:=H' } w' S' ρ' β' c->next (a.put o.dst c) w'):o.wpIn (FW rd) 0 P a w next Q:=by
 obtain⟨J,u⟩:=(u f xs M.H v H' hc).1 U
 refine⟨fun _ _=>Aii,?_⟩
 rw[Kd N,hr J,Oper.uponIn_enter]
 refine⟨fun h=>by simp[Fence.wide]at h,(JI (u w S ρ β M.B args E W hx)).mono fun e w' h=>?_⟩
 obtain⟨c,S',ρ',rfl,h1,Z,h3⟩:=h
 exact Y w' S' ρ' β c ⟨h1,Z,RepX.ofV h3,fun _ _=>rfl,fun d hd=>.inl ⟨d,hd,rfl⟩⟩
theorem All2.append {u β:Type}{R:u->β->Prop}{l J:List u}{m E:List β}(h:All2 R l m)(k:All2 R J E):All2 R (l++J) (m++E):=by
 induction h with
 | nil=>exact k
 | cons h t N=>exact .cons h N
theorem RepL.toAll2 {cs:List Value}(h:RepL w S ρ H xs cs):All2 (RepX w S ρ β H) xs cs :=
 All2.ofGet h.1 fun j x u=>let ⟨c,J,E⟩:=h.2 j x u;⟨c,J,RepX.ofV E⟩
variable {c:Go.Call} {g:Operand}
theorem Ic {az:Array Value}(U:o.op=.call c)(Y:c.callee=.value g)(N:a.eval g=.func (.func f) #[] az)(u:Hq P f):(execOp a.eval o).run P w=.ok (.enter f (c.args.map a.eval++az)) w:=by
 obtain⟨fn,W,E,J⟩:=u
 have E : ¬ fn.name = "runtime.NumGoroutine" := by simpa using E
 have J:¬fn.body=none:=by rintro e;simp[e]at J
 simp[execOp,U,resolve,Y,Deferred.ofValue,N,invoke,callFunc,W,E,J]
theorem AaU (J:f≠yN)(N:o.op=.call c)(Z:c.callee=.value (.func f))(u:Du P gl call)(E:Ok w S ρ β M)(W:GlOk gl w S) 
  (hv:All2 (RepX w S ρ β M.H) vs (c.args.toList.map a.eval)) (U:An call M (.cal f) vs=some (v,M')) (Y:∀w' S' ρ' β' x,Nxt w S ρ β M (.l (.cal f)) v M' w' S' ρ' β' x->next (a.put o.dst x) w'):o.wpIn (FW rd) 0 P a w next Q:=by
 simp only[An,Ahn,Aho,Ahp]at U
 obtain⟨⟨r,H'⟩,hr,rfl,rfl⟩:=U
 exact NZ J (fun d e=>by rw[N]at e;cases e) rfl u E W hr (args:=c.args.map a.eval ++ #[]) (by simpa using hv) (Ic N Z rfl) Y
theorem AaT (W:o.op=.call c)(hc:c.callee=.value g)(u:Du P gl call)(U:Ok w S ρ β M)(hG:GlOk gl w S) 
  (hv:All2 (RepX w S ρ β M.H) vs ((g::c.args.toList).map a.eval)) (J:An call M .cav vs=some (v,M')) (hn:∀w' S' ρ' β' x,Nxt w S ρ β M (.l .cav) v M' w' S' ρ' β' x->next (a.put o.dst x) w'):o.wpIn (FW rd) 0 P a w next Q:=by
 match vs,J with
 | x::xs,J =>
  simp only[AhV]at hv
  generalize hg:a.eval g=cg at hv
  cases hv with|cons h t =>
  simp only[An]at J
  split at J
  ·rename_i f cap
   simp only[Ahn,Aho,Ahp]at J
   obtain⟨⟨r,H'⟩,hr,rfl,rfl⟩:=J
   obtain⟨N,cs,rfl,hcs⟩:=(RepX.toV rfl h).fnL
   exact NZ N (fun d e=>by rw[W]at e;cases e) rfl u U hG hr (args:=c.args.map a.eval++cs) (by simpa using All2.append t (RepL.toAll2 hcs)) (Ic W hc hg) hn
  ·rename_i f cap
   simp only[Ahn,Aho,Ahp]at J
   obtain⟨⟨r,H'⟩,hr,rfl,rfl⟩:=J
   have hI:=(RepX.toV rfl h).imm
   cases hI with|fn _ N _ cs hl ci hci hri =>
   exact NZ N (fun d e=>by rw[W]at e;cases e) rfl u U hG hr (args:=c.args.map a.eval++cs) (by simpa using All2.append t (RepL.toAll2 (RepL.ofI hl ci hci hri))) (Ic W hc hg) hn
  ·rename_i r
   simp only[Ahn,Aho,Ahp]at J
   obtain⟨⟨v',H'⟩,hr,rfl,rfl⟩:=J
   obtain⟨r',xs',hx,u⟩:=(u _ _ _ _ _ hr).2 rfl
   cases hx
   obtain⟨E,Y,hsz,hrd⟩:=u w S ρ β M.B (c.args.map a.eval) U hG (by simpa using t)
   have hcg:cg=.func (.yield (ρ r)) #[] #[]:=by
    have h:=RepX.toV rfl h
    cases h;rfl
   subst hcg
   refine⟨fun _ _=>Aii,?_⟩
   have hy:=run_yield (P:=P) Y hsz
   have Z:(execOp a.eval o).run P w=.ok (.round (ρ r) E.fn ((E.params.zip (c.args.map a.eval)).foldl (fun a0 (t,a)=>a0.setIfInBounds t a) E.tmps) E.assign E.body) w:=by
    simp only[execOp,W,resolve,hc,Deferred.ofValue,hg,invoke,Sem.run_bind,Sem.run_pure,Result.andThen_ok,Array.empty_append]
    exact hy
   rw[Kd (fun d e=>by rw[W]at e;cases e),Z,Oper.uponIn_round]
   refine⟨fun h=>by simp[Fence.wide]at h,RoundIn.mono (F:=FW rd) hrd fun e w' h=>?_⟩
   obtain⟨c',S',ρ',rfl,h1,h2,h3⟩:=h
   exact hn w' S' ρ' β c' ⟨h1,h2,RepX.ofV h3,fun _ _=>rfl,fun d hd=>.inl ⟨d,hd,rfl⟩⟩
  ·cases J
theorem Ii {b:Bool}{u:O}{l E:List Operand}(h:Abo b q l=some (u,E)):b=true/\q=u/\l=E:=by
 cases b <;> simp[Abo,gd]at h
 exact⟨rfl,h.1,h.2⟩
theorem BI {x:OP}(h:evO call M (.p x) vs=some (v,M')):Ar x vs=some v/\M'=M:=by
 simp only[evO,Ahn,Aho,Ahp]at h
 obtain⟨u,h,rfl,rfl⟩:=h
 exact⟨h,rfl⟩
theorem EL {x:OR}(h:evO call M (.r x) vs=some (v,M')):readX M x vs=some v/\M'=M:=by
 simp only[evO,Ahn,Aho,Ahp]at h
 obtain⟨u,h,rfl,rfl⟩:=h
 exact⟨h,rfl⟩
theorem Xo {x:V}(h:LY x=true):∃l,x=.m (.s l):=by
 unfold LY at h
 split at h
 ·exact⟨_,rfl⟩
 ·cases h
variable {az:List Operand} {x y:Operand} {t ty:TypeId}
theorem Mu {neg:Bool}(U:o.op=.binOp (Su neg) t x y ty)(u:XG P neg t x y=some (q,az))(hQ:okO q=true)(E:Ok w S ρ β M)(N:All2 (RepX w S ρ β M.H) vs (az.map a.eval))(J:evO call M q vs=some (v,M')):
  Outc w S ρ β M q v M' ((execOp a.eval o).run P w):=by
 unfold XG at u
 split at u
 ·rename_i Y
  simp only[Aho,Ahp]at u
  obtain⟨rfl,rfl⟩:=u
  obtain⟨h,rfl⟩:=BI J
  exact AaS U Y E N h
 ·split at u
  ·rename_i ks hf
   simp only[Aho,Ahp]at u
   obtain⟨rfl,rfl⟩:=u
   obtain⟨h,rfl⟩:=BI J
   exact AaR U hf E N h
  ·simp only[Ahn]at u
   obtain⟨k,W,u⟩:=u
   split at u
   ·rename_i Z
    simp only[Aho,Ahp]at u
    obtain⟨rfl,rfl⟩:=u
    obtain⟨h,rfl⟩:=BI J
    exact ST U W (.inl ⟨Z,rfl⟩) E N h
   ·split at u
    ·rename_i hx
     simp only[Aho,Ahp]at u
     obtain⟨rfl,rfl⟩:=u
     obtain⟨h,rfl⟩:=BI J
     exact ST U W (.inr ⟨hx,rfl⟩) E N h
    ·cases u
theorem RH {b:BinOp}(U:o.op=.binOp b t x y ty)(u:TT P b t x y=some (q,az))(W:okO q=true)(E:Ok w S ρ β M)(N:All2 (RepX w S ρ β M.H) vs (az.map a.eval))(J:evO call M q vs=some (v,M')):
  Outc w S ρ β M q v M' ((execOp a.eval o).run P w):=by
 unfold TT at u
 split at u
 ·simp only[Aho,Ahp]at u
  obtain⟨rfl,rfl⟩:=u
  obtain⟨h,rfl⟩:=BI J
  exact SU U E N h
 ·simp only[Aho,Ahp]at u
  obtain⟨rfl,rfl⟩:=u
  obtain⟨h,rfl⟩:=BI J
  exact SU U E N h
 ·split at u
  ·exact Mu (neg:=false) U u W E N J
  ·exact Mu (neg:=true) U u W E N J
  ·cases u
theorem SW {z:Nat}{E u mx:Bool}{x:V}(h:Ar (.slc z E u mx) (x::vs)=some v):LY x=Nat.beq z 0 :=
 (ZG (Ag.1 (show gd (eqB (LY x) (Nat.beq z 0)) _=some v from h)).1).symm
theorem Abc {lo Y mx:Option Operand}(Z:o.op=.slice t x lo Y mx)(E:Fc P hi o.dst (.slice t x lo Y mx)=some (q,az))(hQ:okO q=true)(J:Ok w S ρ β M)(N:All2 (RepX w S ρ β M.H) vs (az.map a.eval))(he:evO call M q vs=some (v,M')):
  Outc w S ρ β M q v M' ((execOp a.eval o).run P w):=by
 simp only[Fc,Ahn]at E
 obtain⟨u,hu,E⟩:=E
 split at E
 ·simp only[Aho,Ahp]at E
  obtain⟨rfl,rfl⟩:=E
  obtain⟨h,rfl⟩:=BI he
  simp only[AhV]at N
  cases N with|cons U t1 =>
  have W:LY _=true:=SW h
  obtain⟨l,rfl⟩:=Xo W
  exact Nx Z hu J U t1 h
 ·simp only[Ahn,Ag,Aho,Ahp,Aid]at E
  obtain⟨s,W,h1s,rfl,rfl⟩:=E
  obtain⟨h,rfl⟩:=BI he
  simp only[AhV]at N
  cases N with|cons U t1 =>
  obtain⟨i,hi1,hi2⟩:=AP.1 W
  have hq:Nat.beq s 0=LY _:=(SW h).symm
  refine AaF Z hu hi1 hi2 J U (fun l hl=>?_) t1 h
  subst hl
  have:s=0:=AhI hq
  omega
 ·simp only[Ahn,Aho,Ahp]at E
  obtain⟨s,W,rfl,rfl⟩:=E
  obtain⟨h,rfl⟩:=EL he
  simp only[AhV]at N
  cases N with|cons U t1 =>
  exact OY Z (.inl hu) W J U t1 h
 ·rename_i at'
  split at E
  ·rename_i hu'
   simp only[Ahn,Aho,Ahp]at E
   obtain⟨s,W,rfl,rfl⟩:=E
   obtain⟨h,rfl⟩:=EL he
   simp only[AhV]at N
   cases N with|cons U t1 =>
   exact OY Z (.inr ⟨_,hu,hu'⟩) W J U t1 h
  ·cases E
 ·cases E
theorem XJ (U:o.op=.call c)(u:Fc P hi o.dst (.call c)=some (q,az))(hQ:okO q=true)(a0:Du P gl call)(E:Ok w S ρ β M)(hG:GlOk gl w S) 
  (Z:All2 (RepX w S ρ β M.H) vs (az.map a.eval)) (Y:evO call M q vs=some (v,M')) (W:∀w' S' ρ' β' x,Nxt w S ρ β M q v M' w' S' ρ' β' x->next (a.put o.dst x) w'):o.wpIn (FW rd) 0 P a w next Q:=by
 have J:∀c,o.op ≠ .defer c:=fun d e=>by rw[U]at e;cases e
 simp only[Fc]at u
 split at u
 ·rename_i f hcv
  split at u
  ·rename_i g
   simp only[Ag,Aho,Ahp]at u
   obtain⟨hny,rfl,rfl⟩:=u
   exact AaU (fun e=>by subst e;simp at hny) U hcv a0 E hG Z Y W
  ·simp only[Aho,Ahp]at u
   obtain⟨rfl,rfl⟩:=u
   exact AaT U hcv a0 E hG Z Y W
 ·cases u
 ·rename_i b hb
  simp only[Ahn]at u
  obtain⟨t0,h0,u0,N,u⟩:=u
  split at u
  ·split at u
   ·obtain⟨_,rfl,rfl⟩:=Ii u
    obtain⟨h,rfl⟩:=BI Y
    exact(SS U hb h0 E Z h (fun _=>N) (fun e=>by cases e)).wp J W
   ·obtain⟨_,rfl,rfl⟩:=Ii u
    obtain⟨h,rfl⟩:=BI Y
    exact(SS U hb h0 E Z h (fun e=>by cases e) (fun _=>⟨_,N⟩)).wp J W
   ·obtain⟨_,rfl,rfl⟩:=Ii u
    obtain⟨h,rfl⟩:=EL Y
    exact(WG U hb h0 N E Z h).wp J W
   ·cases u
  ·split at u
   ·simp only[Aho,Ahp]at u
    obtain⟨rfl,rfl⟩:=u
    obtain⟨h,rfl⟩:=BI Y
    exact(Zp (mx:=false) U hb E Z h).wp J W
   ·cases u
  ·split at u
   ·simp only[Aho,Ahp]at u
    obtain⟨rfl,rfl⟩:=u
    obtain⟨h,rfl⟩:=BI Y
    exact(Zp (mx:=true) U hb E Z h).wp J W
   ·cases u
  ·split at u
   ·rename_i e
    simp only[Ahn,Ag,Ahs,Aid,AhL]at u
    obtain⟨t1,h1,u1,hu1,zs,hz,s,hs,bt,hbt,⟨⟨hs1,hb1⟩,_⟩,u⟩:=u
    split at u
    ·simp only[Aho,Ahp]at u
     obtain⟨rfl,rfl⟩:=u
     exact(SV U hb h0 h1 N hu1 (.inl ⟨_,rfl⟩) hz hs hbt hs1 hb1 E Z Y).wp J W
    ·split at u
     ·simp only[Aho,Ahp]at u
      obtain⟨rfl,rfl⟩:=u
      exact(SV U hb h0 h1 N hu1 (.inr rfl) hz hs hbt hs1 hb1 E Z Y).wp J W
     ·cases u
    ·cases u
   ·cases u
  ·split at u
   ·rename_i e
    simp only[Ahn,Ag,Ahs,Aid,AhL]at u
    obtain⟨s,hs,_,t1,h1,u1,hu1,u⟩:=u
    split at u
    ·simp only[Aho,Ahp]at u
     obtain⟨rfl,rfl⟩:=u
     cases hQ
    ·cases u
   ·cases u
  ·split at u
   ·rename_i e
    split at u
    ·rename_i z hz
     simp only[Ag,Aho,Ahp]at u
     obtain⟨_,rfl,rfl⟩:=u
     cases hQ
    ·cases u
   ·cases u
  ·split at u
   ·rename_i kt0 e
    simp only[Ahn,Ag,AhL,Aho,Ahp]at u
    obtain⟨kt,hkt,_,rfl,rfl⟩:=u
    exact(AaK U hb h0 N hkt E Z Y).wp J W
   ·cases u
  ·split at u
   ·obtain⟨_,rfl,rfl⟩:=Ii u
    obtain⟨h,rfl⟩:=BI Y
    exact(AaE U hb E Z h).wp J W
   ·cases u
  ·split at u
   ·rename_i e
    simp only[Ahn]at u
    obtain⟨s,hs,u⟩:=u
    obtain⟨hq,rfl,rfl⟩:=Ii u
    simp only[Ahs,AhL]at hq
    obtain⟨⟨_,hts⟩,rfl⟩:=hq
    exact(AaD U hb h0 hts N hs E Z Y).wp J W
   ·cases u
  ·cases u
theorem Px (h:readX M .ld1 vs=some v):∃r ver ix off ty esz es base fz e,vs=[.pt r ver ix off]/\nth M.H r=some (.cs ty esz es base fz)/\Nat.ble base ver=true/\off<esz/\nth es ix=some e/\nth e off=some v:=by
 match vs,h with
 | [a],h =>
  cases a with
  | pt r ver ix off =>
   simp only[readX,Ahn]at h
   obtain⟨row,u,h⟩:=h
   cases row with
   | cs ty esz es base fz =>
    simp only[Ag,Ahs,Ahn,AiL]at h
    obtain⟨⟨J,E⟩,e,N,U⟩:=h
    exact⟨r,ver,ix,off,ty,esz,es,base,fz,e,rfl,u,J,E,N,U⟩
   | _=>simp at h
  | _=>simp[readX]at h
 | [],h=>simp[readX]at h
 | _::_::_,h=>simp[readX]at h
variable {ag:Bool} {sz:Nat}
theorem Pw (h:readX M (.ldb ag sz) vs=some v):∃d off,vs=[.fa d off]/\readX M (.ld ag sz) [.fa d off]=some v:=by
 match vs,h with
 | [a],h =>
  cases a with
  | fa d off=>exact⟨d,off,rfl,h⟩
  | _=>simp[readX]at h
 | [],h=>simp[readX]at h
 | _::_::_,h=>simp[readX]at h
theorem AeX (h:readX M (.ldb ag sz) vs=some v):readX M (.ld ag sz) vs=some v:=by
 obtain⟨d,off,rfl,h⟩:=Pw h
 exact h
variable {d:Nat}
theorem Pv (h:readX M (.ldx d ag sz) vs=some v):∃a,vs=[a]/\AdY d a=false/\readX M (.ld ag sz) [a]=some v:=by
 match vs,h with
 | [a],h =>
  simp only[readX,Ag,Aia]at h
  exact⟨a,rfl,h.1,h.2⟩
 | [],h=>simp[readX]at h
 | _::_::_,h=>simp[readX]at h
theorem AeW (h:readX M (.ldx d ag sz) vs=some v):readX M (.ld ag sz) vs=some v:=by
 obtain⟨a,rfl,_,h⟩:=Pv h
 exact h
theorem AeV {a:V}(u:AdY d a=false)(h:readX M (.ld ag sz) [a]=some v):readX M (.ldx d ag sz) [a]=some v:=by
 simp only[readX,Ag,Aia]
 exact⟨u,h⟩
theorem Lr {call:Bt}(h:An call M (.stb d sz) vs=some (v,M')):∃a x,vs=[a,x]/\AdY d a=true/\An call M (.st sz) [a,x]=some (v,M'):=by
 match vs,h with
 | [a,x],h =>
  simp only[An,Ag]at h
  exact⟨a,x,rfl,h.1,by simp only[An];exact h.2⟩
 | [],h=>simp[An]at h
 | [_],h=>simp[An]at h
 | _::_::_::_,h=>simp[An]at h
theorem Aeu {call:Bt}(h:An call M (.stb d sz) vs=some (v,M')):An call M (.st sz) vs=some (v,M'):=by
 obtain⟨a,x,rfl,_,h⟩:=Lr h
 exact h
theorem Lp {call:Bt}(h:An call M (.str sz) vs=some (v,M')):∃a x,vs=[a,x]/\Az a=true/\An call M (.st sz) [a,x]=some (v,M'):=by
 match vs,h with
 | [a,x],h =>
  simp only[An,Ag]at h
  exact⟨a,x,rfl,h.1,by simp only[An];exact h.2⟩
 | [],h=>simp[An]at h
 | [_],h=>simp[An]at h
 | _::_::_::_,h=>simp[An]at h
theorem Aeq {call:Bt}(h:An call M (.str sz) vs=some (v,M')):An call M (.st sz) vs=some (v,M'):=by
 obtain⟨a,x,rfl,_,h⟩:=Lp h
 exact h
theorem AeY (h:readX M .ld1 vs=some v):readX M (.ld false 1) vs=some v:=by
 obtain⟨r,ver,ix,off,ty,esz,es,base,fz,e,rfl,u,Y,W,Z,N⟩:=Px h
 have hm:off%esz=off:=Nat.mod_eq_of_lt W
 have hd:off / esz=0:=Nat.div_eq_of_lt W
 have E:Nat.ble (off+1) esz=true:=by rw[Aid];omega
 have U:Dx 1 (e.drop off)=some [v]:=by
  rw[AU]at N
  have J:=(Ahq.1 N).1
  rw[AiM J,(Ahq.1 N).2]
  rfl
 simp only[readX,readA,u,Ahz,Y,E,Bool.true_or,Bool.and_self,gd,CZ,hm,hd,Nat.add_zero,Z,U]
 rfl
theorem Abe {s:Nat}(h:Nat.ble 1 s=true):s≠0:=by rw[Aid]at h;omega
theorem Zv (E:Fc P hi o.dst o.op=some (q,az))(hQ:okO q=true)(hcall:Du P gl call)(J:Ok w S ρ β M)(hG:GlOk gl w S) 
  (Z:All2 (RepX w S ρ β M.H) vs (az.map a.eval)) (U:evO call M q vs=some (v,M')) (Y:∀w' S' ρ' β' x,Nxt w S ρ β M q v M' w' S' ρ' β' x->next (a.put o.dst x) w'):o.wpIn (FW rd) 0 P a w next Q:=by
 have N:∀c,o.op ≠ .defer c:=fun d e=>by rw[e]at E;simp[Fc]at E
 cases hop:o.op with
 | call c=>rw[hop]at E;exact XJ hop E hQ hcall J hG Z U Y
 | slice t x lo hi' mx=>rw[hop]at E;exact(Abc hop E hQ J Z U).wp N Y
 | binOp b t x y ty=>rw[hop]at E;exact(RH hop E hQ J Z U).wp N Y
 | move x =>
  simp only[hop,Fc,Aho,Ahp]at E
  obtain⟨rfl,rfl⟩:=E
  obtain⟨h,rfl⟩:=BI U
  exact(Zo (.inl hop) J rfl Z h).wp N Y
 | assign x =>
  simp only[hop,Fc,Aho,Ahp]at E
  obtain⟨rfl,rfl⟩:=E
  obtain⟨h,rfl⟩:=BI U
  exact(Zo (.inr hop) J rfl Z h).wp N Y
 | pick c x y =>
  simp only[hop,Fc,Aho,Ahp]at E
  obtain⟨rfl,rfl⟩:=E
  obtain⟨h,rfl⟩:=BI U
  exact(WF hop J Z h).wp N Y
 | alloc t =>
  simp only[hop,Fc,Ahn]at E
  obtain⟨zs,hz,d,hd,E⟩:=E
  split at E
  ·simp only[Aho,Ahp]at E
   obtain⟨rfl,rfl⟩:=E
   exact(Abb hop hz J U).wp N Y
  ·simp only[Ahn,Aho,Ahp]at E
   obtain⟨s,hs,rfl,rfl⟩:=E
   exact(Aba hop hz J U).wp N Y
 | box t x =>
  simp only[hop,Fc,Ahn]at E
  obtain⟨d,hd,E⟩:=E
  split at E
  ·simp only[Ahn,Aho,Ahp]at E
   obtain⟨s,hs,rfl,rfl⟩:=E
   exact(AaW hop J Z U).wp N Y
  ·simp only[Ahn,Aho,Ahp]at E
   obtain⟨s,hs,rfl,rfl⟩:=E
   exact(AaV hop J Z U).wp N Y
 | build t ps =>
  simp only[hop,Fc,Ahn]at E
  obtain⟨zs,hz,u,hu,E⟩:=E
  split at E
  ·simp only[Ag,Ahn,Aho,Ahp]at E
   obtain⟨hall,pl,hpl,rfl,rfl⟩:=E
   obtain⟨h,rfl⟩:=BI U
   exact(Hr hop hz hu hall hpl J Z h).wp N Y
  ·simp only[Ahn,Aho,Ahp]at E
   obtain⟨s,hs,rfl,rfl⟩:=E
   obtain⟨h,rfl⟩:=BI U
   exact(HX hop hz hu hs J Z h).wp N Y
  ·cases E
 | buildSlice t n ps =>
  simp only[hop,Fc,Ahn]at E
  obtain⟨u,hu,E⟩:=E
  split at E
  ·simp only[Ahn,Ag,Ahs,Aid]at E
   obtain⟨s,hs,⟨hl,h1⟩,zs,hz,d,hd,E⟩:=E
   split at E
   ·simp only[Aho,Ahp]at E
    obtain⟨rfl,rfl⟩:=E
    obtain⟨h,rfl⟩:=BI U
    exact(AaX hop hu hs hl h1 hz J Z h).wp N Y
   ·simp only[Aho,Ahp]at E
    obtain⟨rfl,rfl⟩:=E
    exact(AaY (call:=call) hop hu hs hl h1 hz J Z U).wp N Y
   ·simp only[Aho,Ahp]at E
    obtain⟨rfl,rfl⟩:=E
    cases hQ
   ·simp only[Aho,Ahp]at E
    obtain⟨rfl,rfl⟩:=E
    cases hQ
  ·cases E
 | load t x =>
  simp only[hop,Fc,Ahn]at E
  obtain⟨ag,hag,s,hs,E⟩:=E
  split at E
  ·rename_i h1
   simp only[Ahs,Aia,AhL]at h1
   obtain⟨⟨rfl,rfl⟩,_⟩:=h1
   simp only[Aho,Ahp]at E
   obtain⟨rfl,rfl⟩:=E
   obtain⟨h,rfl⟩:=EL U
   have W:=OZ hop hag hs (.inr rfl) J Z (AeY h)
   have W:Outc _ _ _ _ _ (.r .ld1) _ _ _:=W
   exact W.wp N Y
  ·simp only[Ag,AiI,AhL,Aho]at E
   obtain⟨h1,E⟩:=E
   split at E
   ·cases E
    obtain⟨h,rfl⟩:=EL U
    have W:=OZ hop hag hs h1 J Z (AeX h)
    have W:Outc _ _ _ _ _ (.r (.ldb ag s)) _ _ _:=W
    exact W.wp N Y
   ·split at E
    ·cases E
     obtain⟨h,rfl⟩:=EL U
     have W:=OZ hop hag hs h1 J Z (AeW h)
     have W:Outc _ _ _ _ _ (.r (.ldx ((o.dst.map hi.bs).getD 0-100) ag s)) _ _ _:=W
     exact W.wp N Y
    ·cases E
     obtain⟨h,rfl⟩:=EL U
     exact(OZ hop hag hs h1 J Z h).wp N Y
 | store t x y =>
  simp only[hop,Fc]at E
  split at E
  ·simp only[Ahn]at E
   obtain⟨s,hs,E⟩:=E
   split at E
   ·rename_i d9 _
    cases E
    have W:=SQ hop hs J Z (Aeu U)
    have W:Outc _ _ _ _ _ (.l (.stb d9 s)) _ _ _:=W
    exact W.wp N Y
   ·split at E
    ·cases E
     have W:=SQ hop hs J Z (Aeq U)
     have W:Outc _ _ _ _ _ (.l (.str s)) _ _ _:=W
     exact W.wp N Y
    ·cases E
     exact(SQ hop hs J Z U).wp N Y
  ·cases E
 | nilCheck x =>
  simp only[hop,Fc,Aho,Ahp]at E
  obtain⟨rfl,rfl⟩:=E
  obtain⟨h,rfl⟩:=BI U
  exact(AaG hop J Z h).wp N Y
 | unOp u t x =>
  simp only[hop,Fc,Aho,Ahp]at E
  obtain⟨rfl,rfl⟩:=E
  obtain⟨h,rfl⟩:=BI U
  exact(Aev hop J Z h).wp N Y
 | convert src d x =>
  simp only[hop,Fc,Ahn]at E
  obtain⟨su,hsu,du,hdu,E⟩:=E
  split at E
  ·simp only[Aho,Ahp]at E
   obtain⟨rfl,rfl⟩:=E
   obtain⟨h,rfl⟩:=BI U
   exact(Aew hop ⟨_,hsu⟩ hdu J Z h).wp N Y
  ·simp only[Aho,Ahp]at E
   obtain⟨rfl,rfl⟩:=E
   obtain⟨h,rfl⟩:=BI U
   cases hQ
  ·split at E
   ·split at E
    ·simp only[Aho,Ahp]at E
     obtain⟨rfl,rfl⟩:=E
     cases hQ
    ·simp only[Aho,Ahp]at E
     obtain⟨rfl,rfl⟩:=E
     obtain⟨h,rfl⟩:=BI U
     cases hQ
   ·cases E
  ·split at E
   ·simp only[Aho,Ahp]at E
    obtain⟨rfl,rfl⟩:=E
    obtain⟨h,rfl⟩:=EL U
    exact(AaZ hop hsu (by assumption) hdu J Z h).wp N Y
   ·cases E
  ·split at E
   ·simp only[Ag,AhL,Aho,Ahp]at E
    obtain⟨hsd,rfl,rfl⟩:=E
    cases hQ
   ·cases E
  ·cases E
 | makeFunc fn first cap =>
  simp only[hop,Fc]at E
  split at E
  ·split at E
   ·simp only[Ag,Aho,Ahp]at E
    obtain⟨hny,rfl,rfl⟩:=E
    obtain⟨h,rfl⟩:=BI U
    exact(AaJ (fun e=>by subst e;simp at hny) hop (Array.eq_empty_of_size_eq_zero (by assumption)) J Z h).wp N Y
   ·cases E
  ·cases E
 | makeMap t r =>
  simp only[hop,Fc,Ahn]at E
  obtain⟨u,hu,E⟩:=E
  split at E
  ·simp only[Aho,Ahp]at E
   obtain⟨rfl,rfl⟩:=E
   exact(AaI hop hu J Z U).wp N Y
  ·cases E
 | makeSlice t n c =>
  simp only[hop,Fc,Ahn]at E
  obtain⟨u,hu,E⟩:=E
  split at E
  ·simp only[Ahn,Aho,Ahp]at E
   obtain⟨zs,hz,s,hs,b,hb,rfl,rfl⟩:=E
   exact(AaH hop hu hz hs hb J Z U).wp N Y
  ·cases E
 | fieldAddr t x f =>
  simp only[hop,Fc,Ahn]at E
  obtain⟨u,hu,E⟩:=E
  split at E
  ·simp only[Ahn,Ag,Aho,Ahp]at E
   obtain⟨fl,hf,s,hs,h1,rfl,rfl⟩:=E
   obtain⟨i,hi1,rfl⟩:=AP.1 hs
   obtain⟨h,rfl⟩:=BI U
   exact(AaP hop hu hf hi1 (Abe h1) J Z h).wp N Y
  ·cases E
 | field t x f =>
  simp only[hop,Fc,Ahn]at E
  obtain⟨u,hu,E⟩:=E
  split at E
  ·simp only[Ahn,Ag,Aho,Ahp,AiI,AhL]at E
   obtain⟨fl,hf,s,hs,ag,hag,h1,rfl,rfl⟩:=E
   obtain⟨i,hi1,rfl⟩:=AP.1 hs
   obtain⟨h,rfl⟩:=BI U
   cases hQ
  ·cases E
 | indexAddr t x y =>
  simp only[hop,Fc,Ahn]at E
  obtain⟨u,hu,E⟩:=E
  split at E
  ·simp only[Ahn,Aho,Ahp]at E
   obtain⟨s,hs,rfl,rfl⟩:=E
   obtain⟨i,hi1,rfl⟩:=AP.1 hs
   obtain⟨h,rfl⟩:=BI U
   exact(AaO hop hu hi1 J Z h).wp N Y
  ·simp only[Ahn,Aho,Ahp]at E
   obtain⟨s,hs,rfl,rfl⟩:=E
   obtain⟨i,hi1,rfl⟩:=AP.1 hs
   obtain⟨h,rfl⟩:=BI U
   exact(WH hop hu hi1 J Z h).wp N Y
  ·cases E
 | index t x y =>
  simp only[hop,Fc,Ahn]at E
  obtain⟨u,hu,E⟩:=E
  split at E
  ·simp only[Aho,Ahp]at E
   obtain⟨rfl,rfl⟩:=E
   obtain⟨h,rfl⟩:=BI U
   exact(AaN hop hu J Z h).wp N Y
  ·simp only[Ahn,Ag,Aho,Ahp,AiI,AhL]at E
   obtain⟨s,hs,ag,hag,h1,rfl,rfl⟩:=E
   obtain⟨i,hi1,rfl⟩:=AP.1 hs
   obtain⟨h,rfl⟩:=BI U
   exact(AaM hop hu hi1 hag h1 J Z h).wp N Y
  ·cases E
 | lookup t x y ok =>
  simp only[hop,Fc,Ahn]at E
  obtain⟨u,hu,E⟩:=E
  split at E
  ·simp only[Ahn,Ag,Aho,Ahp]at E
   obtain⟨zs,hz,ag,hag,hg,kt,hkt,rfl,rfl⟩:=E
   obtain⟨h,rfl⟩:=EL U
   exact(AaL hop hu hz hg hkt J Z h).wp N Y
  ·cases E
 | mapUpdate t m k x =>
  simp only[hop,Fc]at E
  split at E
  ·simp only[Ahn]at E
   obtain⟨u,hu,E⟩:=E
   split at E
   ·simp only[Ahn,Aho,Ahp]at E
    obtain⟨kt,hkt,rfl,rfl⟩:=E
    exact(SR (.inl hop) hu hkt J Z U).wp N Y
   ·cases E
  ·cases E
 | insert t m k x =>
  simp only[hop,Fc]at E
  split at E
  ·simp only[Ahn]at E
   obtain⟨u,hu,E⟩:=E
   split at E
   ·simp only[Ahn,Aho,Ahp]at E
    obtain⟨kt,hkt,rfl,rfl⟩:=E
    exact(SR (.inr hop) hu hkt J Z U).wp N Y
   ·cases E
  ·cases E
 | extract x j =>
  simp only[hop,Fc,Aho,Ahp]at E
  obtain⟨rfl,rfl⟩:=E
  obtain⟨h,rfl⟩:=BI U
  exact(AaQ hop J Z h).wp N Y
 | _=>simp[hop,Fc]at E
end
end Go.Mx
namespace Go.Mx
section
variable {P:Program} {w w' w1 w2:World} {S S' S1 S2:Nat->Prop} {ρ β ρ' β' ρ1 β1 ρ2 β2:Nat->Nat} {M M' M1 M2:Mem} {H H2:Hp} {o:Oper} {a:Act} {vs:List V} {v:V} {call:Bt} {hi:Hint} {gl:Nat->Option (List I)} {nt:Nat} {s s':St} {ds:List Deferred} {rd:Option Nat}
theorem Dn (e:Env)(n:Nat)(x:V)(m:Nat):Cd (CR e n x) m=if m=n then some x else Cd e m:=by
 induction e with
 | nil =>
  simp only[CR,Cd]
  by_cases h:m=n
  ·subst h;simp
  ·rw[Aht h,ZK (fun e=>h e.symm)]
 | cons p r u =>
  obtain⟨k,y⟩:=p
  simp only[CR]
  cases hb:Nat.blt n k with
  | true =>
   simp only[Cd]
   by_cases h:m=n
   ·subst h;simp
   ·rw[Aht h,ZK (fun e=>h e.symm)]
  | false =>
   cases hq:Nat.beq k n with
   | true =>
    have:=AhI hq
    subst this
    simp only[Cd]
    by_cases h:m=k
    ·subst h;simp
    ·rw[Aht h,ZK (fun e=>h e.symm)]
   | false =>
    simp only[Cd]
    by_cases h:m=n
    ·subst h
     rw[hq,u]
    ·cases hk:Nat.beq k m with
     | true=>rw[Aht h]
     | false=>exact u
theorem Ki {d:Nat}:∀ {e:Env},DA d e=true -> ∀n k off,Cd e n=some (.fa k off)->k≠d
 | [],_,n,k,off,hg=>by simp[Cd]at hg
 | (j,x)::r,h,n,k,off,hg=>by
  have E:DA d r=true /\ ∀k off,x=.fa k off->k≠d:=by
   cases x with
   | fa k off =>
    simp only[DA,Ahs,Aia]at h
    refine⟨h.2,fun J u e=>?_⟩
    cases e
    rintro rfl
    simp at h
   | _=>exact⟨h,fun k off e=>by cases e⟩
  simp only[Cd]at hg
  split at hg
  ·exact E.2 k off (Aiw hg)
  ·exact Ki E.1 n k off hg
structure Inv (hi:Hint)(nt:Nat)(ds:List Deferred)(w:World)(S:Nat->Prop)(ρ β:Nat->Nat)(s:St)(a:Act):Prop where
 sz:a.tmps.size=nt
 df:a.defers=ds
 ok:Ok w S ρ β s.M
 env:∀n v,Cd s.E n=some v->hi.loc n=false/\RepX w S ρ β s.M.H v (a.tmps.getD n undef) /\ ∀d off,v=.fa d off->n=d
 loc:∀n v,Cd s.L n=some v->hi.loc n=true/\RepX w S ρ β s.M.H v (a.tmps.getD n undef)
theorem NW {x:Operand}{q:Opnd}(h:Inv hi nt ds w S ρ β s a)(U:GlOk gl w S)(E:Sv hi gl x=some q)(u:evA s q=some v):RepX w S ρ β s.M.H v (a.eval x):=by
 cases x with
 | tmp t =>
  simp only[Sv,Aho]at E
  subst E
  split at u
  ·exact(h.loc _ _ u).2
  ·exact(h.env _ _ u).2.1
 | const c =>
  simp only[Sv,Ahn,Aho]at E
  obtain⟨y,W,rfl⟩:=E
  simp only[evA,Aho]at u
  subst u
  exact RepX.ofV (SI W)
 | func f =>
  simp only[Sv,Ag,Aho]at E
  obtain⟨N,rfl⟩:=E
  simp only[evA,Aho]at u
  subst u
  exact RepX.ofV (.m (.fn f (fun e=>by subst e;simp at N) [] #[] rfl (fun _=>undef) (by simp) (by simp)))
 | global g =>
  simp only[Sv,Ahn,Aho]at E
  obtain⟨cs,J,rfl⟩:=E
  simp only[evA,Aho]at u
  subst u
  exact RepX.ofV (.m (U g cs J))
theorem Kx (h:Inv hi nt ds w S ρ β s a)(J:GlOk gl w S):∀ {az:List Operand} {u:List Opnd} {vs:List V},Ah (Sv hi gl) az=some u->Ah (evA s) u=some vs->All2 (RepX w S ρ β s.M.H) vs (az.map a.eval)
 | [],u,vs,h1,h2=>by
  simp only[Ah,Aho]at h1
  subst h1
  simp only[Ah,Aho]at h2
  subst h2
  exact .nil
 | x::az,u,vs,h1,h2=>by
  simp only[Ah,Ahn,Aho]at h1
  obtain⟨q,N,l,hl,rfl⟩:=h1
  simp only[Ah,Ahn,Aho]at h2
  obtain⟨v,U,W,E,rfl⟩:=h2
  exact .cons (NW h J N U) (Kx h J hl E)
variable {d:Nat}
theorem WI (h:Inv hi nt ds w S ρ β s a)(u:evA s (match hi.loc d with|true=>.l d|false=>.v d)=some v):RepX w S ρ β s.M.H v (a.tmps.getD d undef):=by
 split at u
 ·exact(h.loc _ _ u).2
 ·exact(h.env _ _ u).2.1
variable {ops:Array Oper} {g:Option (Opnd×Bool)}
theorem Mf {b:Bool}(h:Inv hi nt ds w S ρ β s a)(E:Aee hi ops o.guard=some g)(u:AH s g=some b):Region.wanted o (yielded ops a.tmps)=b:=by
 unfold Region.wanted
 cases hg:o.guard with
 | none =>
  rw[hg]at E
  simp only[Aee,Aho]at E
  subst E
  simp only[AH,Aho]at u
  exact u
 | some p =>
  obtain⟨j,W⟩:=p
  rw[hg]at E
  simp only[Aee,Ahn,Aho]at E
  obtain⟨oj,N,d,hd,rfl⟩:=E
  simp only[AH,Ahn]at u
  obtain⟨v,hv,u⟩:=u
  have Y:=WI h hv
  have Z:(ops[j]?).bind (·.dst)=some d:=by rw[N];exact hd
  simp only[yielded,Z,Ahz]
  split at u
  ·rename_i x
   simp only[Aho]at u
   have U:=CH (RepX.toV rfl Y)
   have:a.tmps[d]? = some (.bool x):=by
    cases J:a.tmps[d]? with
    | none=>simp[J,undef]at U
    | some y=>simp[J]at U;rw[U]
   rw[this]
   simpa using u
  ·simp only[Aho]at u
   have hu:a.tmps.getD d undef=undef:=by
    have:=RepX.toV rfl Y
    generalize a.tmps.getD d undef=c at this
    cases this
    rfl
   have:∀x,a.tmps[d]? ≠ some (.bool x):=fun x J=>by simp[J,undef]at hu
   subst u
   cases J:a.tmps[d]? with
   | none=>rfl
   | some y=>cases y <;> first|rfl|exact absurd J (this _)
  ·cases u
variable {c:Value}
theorem RepX.step {x:V}(h:RepX w S ρ β M.H x c)(k:Stp w S ρ β M w' S' ρ' H2)(u:∀d off,x=.fa d off->β' d=β d):RepX w' S' ρ' β' H2 x c:=by
 cases x with
 | fa d off=>simp only[RepX]at h ⊢;rw[u d off rfl];exact h
 | _=>exact k.vals _ _ h
theorem HB {a:Act}{n m:Nat}(u:n<a.tmps.size):(a.put (some n) c).tmps.getD m undef=if m=n then c else a.tmps.getD m undef:=by
 by_cases h:m=n
 ·subst h
  simp[Act.put,u]
 ·rw[Aht h]
  simp[Act.put,Array.getElem?_setIfInBounds_ne (AiD h)]
variable {q:O} {az:List Opnd}
theorem TQ {D:Dst}(h:Ri nt ⟨D,q,az,g⟩=true)(u:dof q=some d):isD d D=true:=by
 simp only[Ri,Ahs]at h
 unfold dof at u
 split at u
 ·cases u;exact h.2
 ·cases u;exact h.2
 ·cases u
theorem Xw (h:Bu s q=true)(u:dof q=some d):DA d s.L=true:=by
 unfold dof at u
 split at u
 ·cases u;exact h
 ·cases u;exact h
 ·cases u
theorem Inv.step {D:Dst}(h:Inv hi nt ds w S ρ β s a)(N:AbV hi o.dst=D)(Z:Ri nt ⟨D,q,az,g⟩=true)(hfr:Bu s q=true)(J:Nxt w S ρ β s.M q v M' w' S' ρ' β' c) 
  (hs:FM { s with M:=M' } D v=some s'):Inv hi nt ds w' S' ρ' β' s' (a.put o.dst c)/\s'.M=M':=by
 have hL:∀n v,Cd s.L n=some v -> ∀d off,v=.fa d off->β' d=β d:=fun n v E d off e=>J.own d fun hd=>Ki (Xw hfr hd) n d off (e ▸ E) rfl
 cases hdst:o.dst with
 | none =>
  rw[hdst]at N
  simp only[AbV]at N
  subst N
  simp only[FM,Aho]at hs
  subst hs
  refine⟨⟨h.sz,h.df,J.ok,fun n v E=>?_,fun n v E=>?_⟩,rfl⟩
  ·obtain⟨U,W,h3⟩:=h.env n v E
   exact⟨U,W.step J.stp fun d off _=>J.own d fun hd=>(by have:=TQ Z hd;simp[isD]at this),h3⟩
  ·obtain⟨U,W⟩:=h.loc n v E
   exact⟨U,W.step J.stp (hL n v E)⟩
 | some k =>
  rw[hdst]at N
  simp only[AbV]at N
  have hk:k<a.tmps.size:=by
   rw[h.sz]
   simp only[Ri,Ahs]at Z
   have:=Z.1
   cases hl:hi.loc k <;> rw[hl]at N <;> subst N <;> simpa[AiL]using this
  have hdk:∀d,dof q=some d->d=k:=fun d hd=>by
   have:=TQ Z hd
   cases hl:hi.loc k <;> rw[hl]at N <;> subst N <;> exact AhI this
  have hdf:(a.put (some k) c).defers=ds:=h.df
  have hsz:(a.put (some k) c).tmps.size=nt:=by simp[Act.put,h.sz]
  cases hl:hi.loc k with
  | true =>
   rw[hl]at N
   simp only at N
   subst N
   simp only[FM,Aho]at hs
   subst hs
   refine⟨⟨hsz,hdf,J.ok,fun n u E=>?_,fun n u E=>?_⟩,rfl⟩
   ·obtain⟨U,W,h3⟩:=h.env n u E
    have Y:n≠k:=fun e=>by rw[e,hl]at U;cases U
    rw[HB hk,Aht Y]
    exact⟨U,W.step J.stp fun d off e=>J.own d fun hd=>Y (by rw[h3 d off e,hdk d hd]),h3⟩
   ·simp only[Dn]at E
    rw[HB hk]
    by_cases e:n=k
    ·rw[Ahv e]at E ⊢
     cases E
     exact⟨by rw[e];exact hl,J.rep⟩
    ·rw[Aht e]at E ⊢
     obtain⟨U,W⟩:=h.loc n u E
     exact⟨U,W.step J.stp (hL n u E)⟩
  | false =>
   rw[hl]at N
   simp only at N
   subst N
   simp only[FM,Ag,Aho]at hs
   obtain⟨hok,rfl⟩:=hs
   refine⟨⟨hsz,hdf,J.ok,fun n u E=>?_,fun n u E=>?_⟩,rfl⟩
   ·simp only[Dn]at E
    rw[HB hk]
    by_cases e:n=k
    ·rw[Ahv e]at E ⊢
     cases E
     refine⟨by rw[e];exact hl,J.rep,fun d off e'=>?_⟩
     subst e'
     simp only[EG,Ahs]at hok
     rw[e,AhI hok.1]
    ·rw[Aht e]at E ⊢
     obtain⟨U,W,h3⟩:=h.env n u E
     exact⟨U,W.step J.stp fun d off e'=>J.own d fun hd=>e (by rw[h3 d off e',hdk d hd]),h3⟩
   ·obtain⟨U,W⟩:=h.loc n u E
    have Y:n≠k:=fun e=>by rw[e,hl]at U;cases U
    rw[HB hk,Aht Y]
    exact⟨U,W.step J.stp (hL n u E)⟩
def Bx (w:World)(β:Nat->Nat)(B:LE)(β':Nat->Nat)(B':LE):Prop:=∀d,(getB B' d).isSome->(∃q,(getB B q).isSome/\β' d=β q)\/w.heap.size<=β' d
theorem Bx.refl {B:LE}:Bx w β B β B:=fun d u=>.inl ⟨d,u,rfl⟩
theorem Bx.trans {B u E:LE}(h:Bx w β B β1 u)(hs:w.heap.size<=w1.heap.size)(k:Bx w1 β1 u β2 E):Bx w β B β2 E:=fun d N=>by
 rcases k d N with ⟨q,J,e⟩|e
 ·rw[e]
  exact h q J
 ·exact .inr (AiF hs e)
def Sq (P:Program)(hi:Hint)(gl:Nat->Option (List I))(nt:Nat)(ops:Array Oper)(i:Nat)(q:Op):Prop:=∃o,ops[i]? = some o/\TS P hi gl ops o=some q/\Ri nt q=true
theorem TL {Q:Exit->Act->World->Prop}(Y:Du P gl call):∀(l:List Nat) (qs:List Op),All2 (Sq P hi gl nt ops) l qs -> ∀(s s':St) (a:Act) (w:World) (S:Nat->Prop) (ρ β:Nat->Nat),BW call qs s=some s'->Inv hi nt ds w S ρ β s a->GlOk gl w S ->
  (∀a' w' S' ρ' β',Inv hi nt ds w' S' ρ' β' s' a'->Stp w S ρ β s.M w' S' ρ' s'.M.H->Bx w β s.M.B β' s'.M.B->Q .normal a' w')->wpOpsIn (FW rd) 0 P ops Q l a w:=by
 intro l qs hl
 induction hl with
 | nil =>
  intro s s' a w S ρ β he u hG hQ
  simp only[BW,Aho]at he
  subst he
  exact hQ a w S ρ β u (Stp.refl _ _ _ _ _) Bx.refl
 | @cons i q l qs hq hl ih =>
  intro s s' a w S ρ β he u hG hQ
  obtain⟨o,ho,hc,W⟩:=hq
  obtain⟨g,qo,os,hg,rfl,E⟩:=JH hc
  simp only[BW,Ek,Ahn]at he
  obtain⟨s1,⟨b,hb,J⟩,he2⟩:=he
  have a0:=Mf u hg hb
  simp only[wpOpsIn,ho,a0]
  have tail:∀ {a1:Act} {w1:World} {S1:Nat->Prop} {ρ1 β1:Nat->Nat},Inv hi nt ds w1 S1 ρ1 β1 s1 a1->Stp w S ρ β s.M w1 S1 ρ1 s1.M.H->Bx w β s.M.B β1 s1.M.B->wpOpsIn (FW rd) 0 P ops Q l a1 w1:=fun {a1 w1 S1 ρ1 β1} hI1 Z a3 =>
   ih s1 s' a1 w1 S1 ρ1 β1 he2 hI1 (hG.step Z) fun a' w' S' ρ' β' h1 N h3=>hQ a' w' S' ρ' β' h1 (Z.trans a3 N) (a3.trans Z.size h3)
  cases b with
  | true =>
   simp only[Ag,Ahn]at J
   obtain⟨hfr,vs,U,⟨v,M'⟩,a2,hset⟩:=J
   simp only[if_true]
   rcases E with ⟨az,E,hQ,hos⟩|⟨rfl,rfl⟩
   case inr=>simp[Ah]at U;subst U;simp[evO,Ar]at a2
   refine(Zv E hQ Y u.ok hG (Kx u hG hos U) a2 fun w' S' ρ' β' c hn=>?_)
   obtain⟨h1,N⟩:=u.step rfl W hfr hn hset
   exact tail h1 (by rw[N];exact hn.stp) (by rw[N];exact hn.box)
  | false =>
   simp only[AiQ,if_false]
   have hn:Nxt w S ρ β s.M (.p .mv) .un s.M w S ρ β undef:=⟨u.ok,Stp.refl _ _ _ _ _,.un,fun _ _=>rfl,fun d hd=>.inl ⟨d,hd,rfl⟩⟩
   have a4:Ri nt ⟨AbV hi o.dst,.p .mv,[],none⟩=true:=by
    simp only[Ri,Ahs]at W ⊢
    exact⟨W.1,Aii⟩
   obtain⟨h1,N⟩:=u.step rfl a4 rfl hn J
   exact⟨fun _ _=>Aii,tail h1 (by rw[N];exact Stp.refl _ _ _ _ _) (by rw[N];exact Bx.refl)⟩
end
end Go.Mx
