/- Soundness of the machine, part 3. Nothing here speaks of a program. -/
import Derived.Test.YtlhjjcaifenlbaaGreatDoorBb
import Derived.CallsIn
import Derived.TacticsIn
import Derived.OrdersIn
import Derived.RangeFuncRecord
import Derived.RangeFuncLeaves
import Derived.Maps.AppendAt
import Derived.Orders
set_option linter.unusedSimpArgs false
set_option linter.unusedVariables false
set_option linter.unusedSectionVars false
namespace Go.Mx
section
variable {P:Program} {w:World} {S:Nat->Prop} {ρ β:Nat->Nat} {M M':Mem} {H:Hp} {o:Oper} {a:Act} {vs:List V} {v:V} {call:Bt}
theorem NU {w:World}{g n:Nat}{cur:Array Value}{ty:TypeId}{mk:Nat×Nat}(J:w.heap[g]? = some (.cells cur ty mk))(U:n≠0):∃u,(w.freeze ⟨g,0,none⟩ n).heap[g]? = some (.cells cur ty u)/\Gw w (w.freeze ⟨g,0,none⟩ n) (some g):=by
 obtain⟨E,hi⟩:=mk
 unfold World.freeze
 rw[Ahj U]
 refine⟨if E==hi then (0,0+n) else (min E 0,max hi (0+n)),?_,⟨⟨rfl,rfl,rfl,by simp,fun k _ N=>?_⟩,fun _=>Ahk _⟩⟩
 ·rw[Array.getElem?_modify,Ahl rfl,J]
  rfl
 ·have:g≠k:=fun e=>N (by rw[e])
  simp[Array.getElem?_modify,this]
theorem Aay {c:Go.Call}{t e:TypeId}(ho:o.op=.call c)(hb:c.callee=.builtin .unsafeString)(ht:c.argTypes[0]? = some t)(hts:c.argTypes.size=2)(hu:P.underlying t=some (.pointer e))(hs:BD P e=some 1):S6 o a P w S ρ β M vs v M' call (.ust e) (c.args.toList.map a.eval):=fun U hv u=>by
 obtain⟨it,hat⟩:∃it,c.argTypes=#[t,it]:=by
  obtain⟨l,hl⟩:∃l,c.argTypes=List.toArray l:=⟨c.argTypes.toList,by simp⟩
  rw[hl]at ht hts ⊢
  match l,hts with
  | [x,y],_=>simp at ht;subst ht;exact⟨y,rfl⟩
 match vs,u with
 | [p,n],u =>
  obtain⟨cp,cn,a2,h,h1⟩:=hv.inv2
  have hm:=AbX a2
  simp only[An]at u
  split at u
  ·rename_i k
   have hn:=Cd (RepX.toV rfl h1)
   subst hn
   split at u
   ·simp only[Ag,AhB,Ahe,Ahf]at u
    obtain⟨rfl,rfl,rfl⟩:=u
    have hc:cp=.pointer none:=by have:=(RepX.toV rfl h).imm;cases this;rfl
    subst hc
    exact .val U (RepX.ofV (.m (.s .empty [] rfl))) (AD ho hb (fun _=>by rw[hm];rfl) (by rw[hat];exact Lib.run_unsafeString_none w t it o.type none))
   ·rename_i r ver
    simp only[Ahd,AT]at u
    obtain⟨row,J,u⟩:=u
    split at u
    ·rename_i ty esz es base
     simp only[Ag,Ahi,AhB,AhS,Ahd,Ahe,Ahf]at u
     obtain⟨⟨⟨⟨⟨⟨rfl,rfl⟩,hbv⟩,hve⟩,hkl⟩,hk1⟩,l,hl,H',hH',rfl,rfl⟩:=u
     obtain⟨hrl,rfl⟩:=By hH'
     have hx:=RepX.toV rfl h
     cases hx with|pt _ _ _ _ ty' esz' a4 base' fz' q E h2 hix hb' =>
     rw[J]at E
     simp only[Ahe,Row.cs.injEq]at E
     obtain⟨rfl,rfl,rfl,rfl,rfl⟩:=E
     obtain⟨hbl,a5,hU,_,hns,cur,cap,mk,hh,a7,hcs,hcap,hcm,hr⟩:=U.rows r _ J
     have a7:=a7 rfl
     have a6:=hns rfl
     obtain⟨b,rfl,Z⟩:=hb' hbv
     have hbe:b=ρ r:=by
      rcases Z with Z|⟨_,N,_⟩
      ·exact Z
      ·exact absurd hve N
     subst hbe
     obtain⟨g1,g2,g3⟩:=Gd hl hr
     have hm8:=LX g2
     have W:(l.map UInt8.ofNat).length=k:=by rw[Ahr];omega
     have N:l.map UInt8.ofNat≠[]:=by intro e;rw[e]at W;simp at W;omega
     have hsh:w.shape? (ρ r)=some (e,cur.size):=by unfold World.shape?;rw[hh]
     have a0:∀j x,(l.map UInt8.ofNat)[j]? = some x->w.cell? ((⟨ρ r,0*1+0,none⟩:Addr).add j)=some (.int .u8 x.toNat):=fun j x hj=>by
      rw[Bz,Nat.zero_mul,Aih,cell_of_row w (ρ r) j cur e _ hh]
      rw[AhD]at hj
      obtain⟨d,hd,rfl⟩:=AhM.1 hj
      have hg:(cur.toList.take (es.length*1))[j]? = some (.int .u8 (d:Int)):=by rw[g3];simp[hd]
      rw[AhN]at hg
      split at hg
      ·have hd2:=g2 d (Ahm hd)
       have:((UInt8.ofNat d).toNat:Int)=(d:Int):=by simp;omega
       rw[this]
       simpa using hg
      ·cases hg
     have hcz:P.cellsOf e=1:=by
      obtain⟨i,hi,hi1⟩:=AR.1 hs
      simp[Program.cellsOf,hi,hi1]
     have Y:=Lib.run_unsafeString_row (P:=P) w t it o.type e hu hcz (ρ r) cur.size hsh (l.map UInt8.ofNat) N (by rw[W];omega) (by rw[W];unfold maxLen at hcm;omega) (by simpa using a0)
     rw[W]at Y
     obtain⟨mk2,f1,f2⟩:=NU hh (n:=k) (by omega)
     have a1:=Ok.setRow (w':=w.freeze ⟨ρ r,0,none⟩ k) (S':=fun b=>S b\/b=ρ r) (g:=ρ r) (row':=.cs e 1 es base true) U J f2 (.inl rfl) (fun _ h=>.inl h) (fun b h=>h)
      (fun b hb=>f2.block b (U.lt b hb) (fun e=>a6 (by cases e;exact hb)))
      (fun ty1 esz1 a4 base1 fz1 e1=>by
       cases e1
       refine⟨es,base,true,rfl,Ahk _,Ahk _,fun b ver h1 h2 Z=>?_,fun _=>⟨rfl,fun cur1 mk1 h1=>?_⟩⟩
       ·rcases Z with Z|⟨a3,N,hc⟩
        ·exact .inl Z
        ·refine .inr ⟨.inl a3,N,fun j hj=>?_⟩
         have e1:(w.freeze ⟨ρ r,0,none⟩ k).cell? ⟨b,j,none⟩=w.cell? ⟨b,j,none⟩:=World.cell?_of_block (f2.block b (U.lt b a3) (fun e=>a6 (by cases e;exact a3)))
         have e2:(w.freeze ⟨ρ r,0,none⟩ k).cell? ⟨ρ r,j,none⟩=w.cell? ⟨ρ r,j,none⟩:=by
          rw[cell_of_row _ _ j cur e _ f1,cell_of_row _ _ j cur e _ hh]
         rw[e1,e2]
         exact hc j hj
       ·rw[hh]at h1
        cases h1
        exact⟨cur,mk2,f1,rfl⟩)
      (fun a4 fz1 e1=>by cases e1)
      (fun hto=>by
       rw[Jo]at hto ⊢
       exact⟨hbl,a5,hU,fun _=>.inr rfl,fun e=>(by cases e),cur,cap,mk2,f1,fun e=>(by cases e),hcs,hcap,hcm,hr.mono hto⟩)
     rw[Jo]at a1
     exact⟨_,.string ⟨(l.map UInt8.ofNat).toArray⟩,_,_,_,_,AD ho hb (fun _=>by rw[hm];rfl) (by rw[hat];simpa using Y),.inl rfl,a1.1,a1.2,RepX.ofV (.m (.s _ l (by simpa using hm8))),fun _ _=>rfl,fun d hd=>.inl ⟨d,hd,rfl⟩⟩
    ·cases u
   ·cases u
  ·cases u
end
end Go.Mx
namespace Go.Mx
section
variable {P:Program} {w w1 w2:World} {S S1 S2:Nat->Prop} {ρ ρ1 ρ2 β β1:Nat->Nat} {M M1 M':Mem} {H H2:Hp} {o:Oper} {a:Act} {vs:List V} {v:V} {call:Bt}
theorem Stp.trans (h:Stp w S ρ β M w1 S1 ρ1 M1.H)(u:∀d,(getB M1.B d).isSome->(∃q,(getB M.B q).isSome/\β1 d=β q)\/w.heap.size<=β1 d)(k:Stp w1 S1 ρ1 β1 M1 w2 S2 ρ2 H2):Stp w S ρ β M w2 S2 ρ2 H2 where
 vals v c hv:=k.vals v c (h.vals v c hv)
 stab b u:=k.stab b (h.stab b u)
 heap b u:=(k.heap b (h.stab b u)).trans (h.heap b u)
 keep b hlt N U:=by
  refine(k.keep b (AiH hlt h.size) (fun r Z e=>?_) (fun d W e=>?_)).trans (h.keep b hlt N U)
  ·rcases h.rown r Z with ⟨q,J,E⟩|E
   ·exact N q J (e.trans E)
   ·omega
  ·rcases u d W with ⟨q,J,E⟩|E
   ·exact U q J (e.trans E)
   ·omega
 news b u:=by
  rcases k.news b u with u|u|⟨r,N,e⟩
  ·exact h.news b u
  ·exact .inr (.inl (AiB h.size u))
  ·rcases h.rown r N with ⟨q,J,E⟩|E
   ·exact .inr (.inr ⟨q,J,e.trans E⟩)
   ·exact .inr (.inl (by omega))
 rown r N:=by
  rcases k.rown r N with ⟨q,J,e⟩|e
  ·rcases h.rown q J with ⟨q',Y,E⟩|E
   ·exact .inl ⟨q',Y,e.trans E⟩
   ·exact .inr (by omega)
  ·exact .inr (AiB h.size e)
 size:=AiB h.size k.size
 os:=k.os.trans h.os
 tape:=k.tape.trans h.tape
 output:=k.output.trans h.output
 drawn:=fun U=>AiB (h.drawn U) (k.drawn U)
variable {l:List I} {cs:List Value}
theorem SE {R:Nat->Prop}(E:Ok w S ρ β M)(u:Sp R M.H){n:Nat}{xs:List V}(Y:Ah (view n M.H) xs=some l)(h2:∀x,x∈xs->InN R n x)(N:RepL w S ρ M.H xs cs):LI w (Sof S ρ M.H R) l cs:=by
 obtain⟨g1,g2⟩:=optMap_get Y
 refine⟨by rw[Ahr,g1];exact N.1,fun j y J=>?_⟩
 rw[AhD]at J
 obtain⟨z,hz,rfl⟩:=AhM.1 J
 obtain⟨x,U,W⟩:=g2 j z hz
 obtain⟨c,Z,hr⟩:=N.2 j x U
 exact⟨c,Z,.m (FN E u n x c z W (h2 x (Ahm U)) hr)⟩
theorem LI.mono (U:∀b,S b->w1.heap[b]? = w.heap[b]?)(N:∀b,S b->S1 b)(h:LI w S l cs):LI w1 S1 l cs:=by
 refine⟨h.1,fun j x u=>?_⟩
 obtain⟨c,E,J⟩:=h.2 j x u
 rw[AhD]at u
 obtain⟨z,W,rfl⟩:=AhM.1 u
 exact⟨c,E,.m (J.imm.mono U N)⟩
theorem LI.toL (h:LI w S l cs):RepL w S ρ H (l.map .m) cs:=by
 refine⟨h.1,fun j x u=>?_⟩
 obtain⟨c,E,J⟩:=h.2 j x u
 rw[AhD]at u
 obtain⟨z,N,rfl⟩:=AhM.1 u
 exact⟨c,E,.m J.imm⟩
variable {x:V} {rs:List Nat}
theorem NC (h:CV x=true)(u:∀r,r∈Fp x->r∈rs)(n:Nat):InN (· ∈ rs) n x:=by
 cases n with
 | zero=>exact AhY
 | succ n=>cases x <;> first|exact AhY|(simp[CV]at h;done)|exact u _ (by simp[Fp])
theorem XK {y:V}{l:List V}(h:BO x=true)(J:∀r,r∈Du x->r∈rs)(hl:Ay x=some l)(u:y∈l)(n:Nat):InN (· ∈ rs) n y:=by
 cases x with
 | m i =>
  cases i with
  | ag cs =>
   simp only[Ay,Ahe]at hl
   subst hl
   obtain⟨z,_,rfl⟩:=AhE.1 u
   exact Mi rfl n
  | _ =>
   simp only[Ay,Ahe]at hl
   subst hl
   rw[AhH.1 u]
   exact Mi rfl n
 | ag cs =>
  simp only[Ay,Ahe]at hl
  subst hl
  exact NC (Ahu.1 h y u) (fun r E=>J r (List.mem_flatMap.2 ⟨y,u,E⟩)) n
 | tu vs=>simp[Ay]at hl
 | un=>simp[Ay]at hl
 | fa d off=>simp[Ay]at hl
 | _ =>
  simp only[Ay,Ahe]at hl
  subst hl
  rw[AhH.1 u]
  exact Gu h J n
theorem JI {esz:Nat}:∀(ps:List Nat) (xs:List V) (es es':L0),BP esz es ps xs=some es' -> ∀y,y∈es'.flatten->y∈es.flatten \/ ∃x,x∈xs /\ ∃l,Ay x=some l/\y∈l
 | [],[],es,es',h,y,u=>by simp only[BP,Ahe]at h;subst h;exact .inl u
 | [],_::_,es,es',h,y,u=>by simp[BP]at h
 | _::_,[],es,es',h,y,u=>by simp[BP]at h
 | p::ps,x::xs,es,es',h,y,u=>by
  simp only[BP,Ahd,Ag,AhB]at h
  obtain⟨lx,U,Z,W,J,h⟩:=h
  obtain⟨_,rfl⟩:=By J
  rcases JI ps xs _ es' h y u with u|⟨z,hz,l,Y,u⟩
  ·obtain⟨e,N,E⟩:=List.mem_flatten.1 u
   rcases List.mem_or_eq_of_mem_set N with N|N
   ·exact .inl (List.mem_flatten.2 ⟨e,N,E⟩)
   ·subst N
    exact .inr ⟨x,by simp,_,U,E⟩
  ·exact .inr ⟨z,by simp[hz],l,Y,u⟩
theorem Aat {c:Value}(h:toV c=some x):isM x=true:=by
 unfold toV at h
 split at h <;> first|contradiction|(simp only[Ahe]at h;subst h;rfl)
variable {t:TypeId} {zs:List V}
theorem SA (h:Dv P t=some zs):∀x,x∈zs->isM x=true:=by
 simp only[Dv,Ahd,Ag]at h
 obtain⟨i,_,z,_,_,E⟩:=h
 intro x J
 obtain⟨j,u,rfl⟩:=List.getElem_of_mem J
 obtain⟨c,_,N⟩:=(optMap_get E).2 j _ (Ahh u)
 exact Aat N
theorem AaT {e:TypeId}{n s:Nat}{ps:Array (Nat×Operand)}(ho:o.op=.buildSlice t n ps)(hu:P.underlying t=some (.slice e))(hs:BD P e=some s)(hlim:n*s<=16777216)(E:1<=s)(hz:Dv P e=some zs):S6 o a P w S ρ β M vs v M' call (.bsf s zs n (ps.toList.map (·.1))) ((ps.toList.map (·.2)).map a.eval):=fun hok hv he=>by
 simp only[An,Ahd,Ag,Ahe,Ahf]at he
 obtain⟨es,hes,hsh,l,U,H',hH',rfl,rfl⟩:=he
 obtain⟨C',Y,hR,hU,hlen⟩:=Fo (P:=P) (w:=w) (S:=S) (ρ:=ρ) (β:=β) (H:=M.H) (a:=a) hu hs hlim E hz hv hes
 obtain⟨u,hst1,hl1,hf1⟩:=GJ _ hok hH'
 have hcl:=Ju hf1
 have hin:∀x,x∈es.flatten->InN (· ∈ vs.flatMap Du) 20 x:=fun x hx=>by
  rcases JI _ _ _ _ hes x hx with hx|⟨y,hy,l,U,hx⟩
  ·obtain⟨e,he,W⟩:=List.mem_flatten.1 hx
   rw[(List.mem_replicate.1 he).2]at W
   exact Mi (SA hz x W) 20
  ·exact XK (Ahu.1 hsh y hy) (fun r hr=>List.mem_flatMap.2 ⟨y,hy,hr⟩) U hx 20
 have hLI:=SE hok hcl (FB U) hin hR
 obtain⟨Z,hst2⟩:=u.allocI (Gw.alloc w (.cells C' e) none) (by simp)
 have hst:=Stp.trans (M1:={ M with H:=H' }) hst1 (fun d hd=>.inl ⟨d,hd,rfl⟩) hst2
 have N:=Jy U hU
 have hll:=(optMap_get U).1
 have hln:l.length<=maxLen:=by
  have:n*1<=n*s:=Nat.mul_le_mul_left _ E
  unfold maxLen;omega
 have J:LI (w.alloc (.cells C' e)) (Aha (Sof S ρ M.H (· ∈ vs.flatMap Du)) w) l.flatten C'.toList:=hLI.mono (fun b hb=>heap_alloc_old w _ b (u.lt b hb)) (fun b hb=>.inl hb)
 have hCl:=J.len
 rw[N.len]at hCl
 have hI:=RepI.ofRow (ρ:=ρ) (H:=H') (S:=Aha (Sof S ρ M.H (· ∈ vs.flatMap Du)) w) (b:=w.heap.size) (cap:=l.length) (.inr rfl) (heap_alloc_new w (.cells C' e)) N (by rw[Ahz (by omega)];exact J.toL) (Ahk _) hln
 refine⟨.value (.slice (some ⟨w.heap.size,0,none⟩) n n),_,w.alloc (.cells C' e),_,ρ,β,by simp[execOp,ho,Y],.inl rfl,Z,hst,RepX.ofV ?_,fun _ _=>rfl,fun d hd=>.inl ⟨d,hd,rfl⟩⟩
 rw[<-hlen,<-hll]
 exact .ls l _ hI
end
end Go.Mx
namespace Go.Mx
section
variable {P:Program} {w w1 w2:World} {S S1 S2:Nat->Prop} {ρ ρ1 ρ2 β β1:Nat->Nat} {M M1 M':Mem} {H H2:Hp} {o:Oper} {a:Act} {vs:List V} {v:V} {call:Bt}
structure Src (P:Program)(w:World)(size m:Nat)(x:Value)(news:List Value):Prop where
 len:Builtin.lenOf x=pure m
 get:∀w':World,w'.heap=w.heap->(Builtin.firstCells size m x).run P w'=.ok news.toArray w'
theorem TU {w w':World}(h:w'.heap=w.heap)(p:Addr):w'.cell? p=w.cell? p:=World.cell?_of_block (by rw[h])
variable {size cap off:Nat}
theorem Src.slice {m b:Nat}{news:List Value}(hl:news.length=m*size)(E:∀(j:Nat) u,news[j]? = some u->w.cell? ⟨b,off+j,none⟩=some u):Src P w size m (.slice (some ⟨b,off,none⟩) m cap) news :=
 ⟨rfl,fun w' N=>run_firstCells_some w' size m _ m cap news hl fun j u J=>by rw[TU N,Bz];exact E j u J⟩
theorem Src.slice' {m len b:Nat}{news:List Value}(hl:news.length=m*size)(E:len=m)(J:∀(j:Nat) u,news[j]? = some u->w.cell? ⟨b,off+j,none⟩=some u):Src P w size m (.slice (some ⟨b,off,none⟩) len cap) news:=by
 subst E
 exact Src.slice hl J
theorem Src.none {size cap:Nat}{ad:Option Addr}:Src P w size 0 (.slice ad 0 cap) [] :=
 ⟨rfl,fun w' _=>by
  cases ad with
  | none=>simp[Builtin.firstCells]
  | some p=>simp[Builtin.firstCells,loadCells,loadCellsFrom]⟩
theorem Src.string (s:ByteArray):Src P w size s.size (.string s) (Lib.strCells s) :=
 ⟨rfl,fun w' _=>Lib.run_firstCells_string w' size s⟩
section
variable {ts:Array TypeId} {ty t t1 e:TypeId} {u1:TypeDesc} {i:TypeInfo} {z x:Value} {m:Nat} {news:List Value}
variable {sLen sCap:Nat}
theorem XU (Z:ts[0]? = some t)(h1:ts[1]? = some t1)(ht:P.underlying t=some (.slice e))(W:P.underlying t1=some u1)(hn:(∃Y,u1=.slice Y)\/u1=.string)(hi:P.info? e=some i) 
  (hs:Src P w i.size m x news) (hl:news.length=m*i.size) {g:Nat} {cur:Array Value} {T:TypeId} {mk:Nat×Nat} (hg:w.heap[g]? = some (.cells cur T mk)) (hw:Win cur.size mk) (N:∀u,u∈news->u.oneCell'=true) (E:sLen+m<=sCap) (J:sLen*i.size+news.length<=cur.size) :
  (Builtin.append_ ts ty #[.slice (some ⟨g,0,none⟩) sLen sCap,x]).run P w =
   .ok (.slice (some ⟨g,0,none⟩) (sLen+m) sCap) (w.setRow g (cur.toList.take (sLen*i.size)++news++cur.toList.drop (sLen*i.size+news.length)).toArray):=by
 have hf:=hs.get w rfl
 have U:=Cr P g (sLen*i.size) T mk news 0 cur w hg hw (by simpa using J) N
 simp only[Nat.add_zero]at U
 rcases hn with ⟨Y,rfl⟩|rfl <;> simp[Builtin.append_,Z,h1,run_underlying ht,run_underlying W,AS hi,hs.len,E,hf,Addr.add_lit,U]
variable {ad:Option Addr}
theorem XV (N:ts[0]? = some t)(Y:ts[1]? = some t1)(U:P.underlying t=some (.slice e))(E:P.underlying t1=some u1)(Z:(∃J,u1=.slice J)\/u1=.string)(hi:P.info? e=some i) 
  (hs:Src P w i.size 0 x []) (u:sLen<=sCap) :
  (Builtin.append_ ts ty #[.slice ad sLen sCap,x]).run P w=.ok (.slice ad sLen sCap) w:=by
 have W:=hs.get w rfl
 rcases Z with ⟨J,rfl⟩|rfl <;> cases ad <;> simp[Builtin.append_,N,Y,run_underlying U,run_underlying E,AS hi,hs.len,u,W,storeCells]
theorem PR (h0:ts[0]? = some t)(h1:ts[1]? = some t1)(ht:P.underlying t=some (.slice e))(N:P.underlying t1=some u1)(hn:(∃Z,u1=.slice Z)\/u1=.string)(hi:P.info? e=some i)(hz:i.zero=some z) 
  (hs:Src P w i.size m x news) {olds:List Value} (ho:Src P w i.size sLen (.slice ad sLen sCap) olds) (hg:sCap<sLen+m) (J:sLen+m<=maxLen) (Y:(sLen+m)*i.bytes<=140737488355328) :
  (Builtin.append_ ts ty #[.slice ad sLen sCap,x]).run P w =
   .ok (.slice (some ⟨w.heap.size,0,none⟩) (sLen+m) (grownCap w (sLen+m) sCap e)) (w.drew.alloc (.cells (olds.toArray++news.toArray++Builtin.zeroCells z.cells (grownCap w (sLen+m) sCap e-(sLen+m))) e)):=by
 have E:¬(sLen+m<=sCap):=by omega
 have u:¬(9223372036854775807<((sLen:Int)+(m:Int))):=by unfold maxLen at J;omega
 have a0:=growslice_fits hg Y
 have U:¬(281474976710656<Builtin.nextslicecap (sLen+m) sCap*i.bytes):=by omega
 have hf:=hs.get w.drew rfl
 have W:=ho.get w.drew rfl
 rcases hn with ⟨Z,rfl⟩|rfl <;> simp[Builtin.append_,h0,h1,run_underlying ht,run_underlying N,AS hi,LF hi,Br hi hz,hs.len,E,u,U,Question.forced,hf,W,grownCap,Gv] <;> rw[<-Array.append_assoc,show olds.toArray++news.toArray=(olds++news).toArray by simp]
end
theorem Lz (s:ByteArray):Lib.strCells s=(s.data.toList.map UInt8.toNat).map fun c:Nat=>Value.int .u8 (c:Int):=by
 simp[Lib.strCells]
variable {c:Value}
theorem Nz {x:V}{xs:L0}(U:Ok w S ρ β M)(hx:RepX w S ρ β M.H x c)(h:elems M.H x=some xs)(esz:Nat)(Y:Uni esz xs):∃news,Src P w esz xs.length c news/\news.length=xs.length*esz/\RepL w S ρ M.H xs.flatten news:=by
 obtain⟨ad,cap,W,cells,rfl,hu1,N,Z⟩:=Iy U hx h
 have J:cells.length=xs.length*esz:=by rw[N.1,Y.len]
 by_cases E:xs=[]
 ·subst E
  have:cells=[]:=AhJ (by simpa using J)
  subst this
  exact⟨[],Src.none,by simp,N⟩
 ·obtain⟨b,off,rfl,u,_⟩:=Z E
  exact⟨cells,Src.slice J u,J,N⟩
theorem Aax {l:List Nat}(E:RepX w S ρ β M.H (.m (.s l)) c)(esz:Nat)(J:esz=1):∃news,Src P w esz (l.map fun c:Nat=>[V.m (.i .u8 (Int.ofNat c))]).length c news/\news.length=(l.map fun c:Nat=>[V.m (.i .u8 (Int.ofNat c))]).length*esz /\
  RepL w S ρ M.H (l.map fun c:Nat=>[V.m (.i .u8 (Int.ofNat c))]).flatten news:=by
 subst J
 obtain⟨s,rfl,rfl⟩:=Eh (RepX.toV rfl E)
 refine⟨Lib.strCells s,by simpa using Src.string s,by simp[Lib.strCells_length],?_⟩
 rw[Lz]
 generalize s.data.toList.map UInt8.toNat=l
 induction l with
 | nil=>exact .nil
 | cons c l u=>exact .cons (.m (.i .u8 _)) u
theorem SB (z:Array Value)(n:Nat):(Builtin.zeroCells z n).size=n*z.size:=size_zeroCells z n
theorem Ol {c:Go.Call}{t t1 e:TypeId}{u1:TypeDesc}{esz bytes:Nat}{z:Value}{i:TypeInfo}{x:Value}{xs es0:L0}{news olds:List Value}{ad:Option Addr}{sCap:Nat}{val:V}(ho:o.op=.call c)(hb:c.callee=.builtin .append)(h0:c.argTypes[0]? = some t)(h1:c.argTypes[1]? = some t1)(ht:P.underlying t=some (.slice e))(hu1:P.underlying t1=some u1)(hn:(∃e',u1=.slice e')\/u1=.string) 
  (hi:P.info? e=some i) (hz:i.zero=some z) (hzs:z.cells.size=i.size) (a3:i.size=esz) (hby:i.bytes=bytes) (hb1:1<=bytes) (hok:Ok w S ρ β M) (hm:c.args.map a.eval=#[.slice ad es0.length sCap,x])
  (hs:Src P w esz xs.length x news) (E:news.length=xs.length*esz) (hnr:RepL w S ρ M.H xs.flatten news) (hos:Src P w esz es0.length (.slice ad es0.length sCap) olds) (J:olds.length=es0.length*esz) (hor:RepL w S ρ M.H es0.flatten olds)
  (hg:sCap<es0.length+xs.length) (he:Bv M e esz bytes (es0++xs)=some (val,M')) :
  Outc w S ρ β M (.l (.app e esz bytes)) val M' ((execOp a.eval o).run P w):=by
 subst a3;subst hby
 simp only[Bv,Ag,Ahi,AhS,Ahe,Ahf,Ahu,AhB]at he
 obtain⟨⟨⟨U,W⟩,Y⟩,rfl,rfl⟩:=he
 rw[Ahv]at U
 have h47:es0.length+xs.length<=140737488355328:=by
  have:(es0.length+xs.length)*1<=(es0.length+xs.length)*i.bytes:=Nat.mul_le_mul_left _ hb1
  omega
 have Z:es0.length+xs.length<=maxLen:=by unfold maxLen;omega
 have a0:=PR (P:=P) (w:=w) (ty:=o.type) h0 h1 ht hu1 hn hi hz hs hos hg Z U
 have hU:Uni i.size (es0++xs):=fun e he=>(Y e he).1
 have a2:=grownCap_le_maxLen w _ sCap e Z
 have a1:=grownCap_ge w (es0.length+xs.length) sCap e
 have u:(olds.toArray++news.toArray++Builtin.zeroCells z.cells (grownCap w (es0.length+xs.length) sCap e-(es0.length+xs.length))).size=grownCap w (es0.length+xs.length) sCap e*i.size:=by
  simp only[Array.size_append,List.size_toArray,SB,hzs,J,E,<-AhU]
  congr 1
  omega
 have hh:=heap_alloc_new w.drew (.cells (olds.toArray++news.toArray++Builtin.zeroCells z.cells (grownCap w (es0.length+xs.length) sCap e-(es0.length+xs.length))) e)
 refine NG (cap:=grownCap w (es0.length+xs.length) sCap e) (c:=.slice (some ⟨w.heap.size,0,none⟩) (es0.length+xs.length) (grownCap w (es0.length+xs.length) sCap e)) (w':=w.drew.alloc (.cells (olds.toArray++news.toArray++Builtin.zeroCells z.cells (grownCap w (es0.length+xs.length) sCap e-(es0.length+xs.length))) e)) hok W hU (Er w _) (by simp) hh (by simpa using a1) a2 u ?_ (AD ho hb (fun _=>by rw[hm];rfl) a0) (fun ρ' N=>?_)
 ·have:(olds.toArray++news.toArray++Builtin.zeroCells z.cells (grownCap w (es0.length+xs.length) sCap e-(es0.length+xs.length))).toList.take ((es0++xs).length*i.size)=olds++news:=by
   simp only[Array.toList_append,Ahv]
   rw[List.take_append_of_le_length (by simp;rw[J,E,AhU];omega),Ahz (by simp;rw[J,E,AhU];omega)]
  rw[this,List.flatten_append]
  exact hor.append hnr
 ·rw[Ahv]
  exact .sl M.H.length (es0.length+xs.length) i.size 0 (es0.length+xs.length) false e (es0++xs) 0 false _ _ (Kl _ _) (by omega) (by simp) a1 a2 (fun h=>by cases h) ⟨_,rfl⟩ (fun _ _=>⟨w.heap.size,by simp,.inl N.symm⟩) (fun _ _ _ _=>⟨by rw[N],_,(0,0),by rw[N];exact hh,u⟩)
end
end Go.Mx
namespace Go.Mx
section
variable {P:Program} {w:World} {S:Nat->Prop} {ρ β:Nat->Nat} {M M':Mem} {H:Hp} {o:Oper} {a:Act} {vs:List V} {v:V} {call:Bt}
variable {w':World}
theorem Mp {w:World}{row:Option Nat}(h:Gw w w' none):Gw w w' row:=⟨⟨h.os,h.tape,h.output,h.size,fun k u _=>h.block k u (by simp)⟩,h.drawn⟩
variable {ty esz base cap:Nat} {xs:L0} {cur:Array Value} {news:List Value} {mk:Nat×Nat}
theorem AbG {r:Nat}{es:L0}(a3:Ok w S ρ β M)(u:M.H[r]? = some (.cs ty esz es base false))(hh:w.heap[ρ r]? = some (.cells cur ty mk))(hw:Win cur.size mk) 
  (hU:Uni esz xs) (a2:xs≠[]) (hcap:cur.size=cap*esz) (hle:es.length+xs.length<=cap) (hcm:cap<=maxLen) (hnl:news.length=xs.length*esz) (hr:RepL w S ρ M.H es.flatten (cur.toList.take (es.length*esz))) (hn:RepL w S ρ M.H xs.flatten news) :
  Ok (w.setRow (ρ r) (cur.toList.take (es.length*esz)++news++cur.toList.drop (es.length*esz+news.length)).toArray) S ρ β { M with H:=M.H.set r (.cs ty esz (es++xs) base false) } /\
   Stp w S ρ β M (w.setRow (ρ r) (cur.toList.take (es.length*esz)++news++cur.toList.drop (es.length*esz+news.length)).toArray) S ρ (M.H.set r (.cs ty esz (es++xs) base false)):=by
 obtain⟨hb,U,E,_,hns,_⟩:=a3.rows r _ u
 have E:Uni esz es:=E
 have J:=hns rfl
 have hxl:0<xs.length:=AiN.2 a2
 have W:(es.length+xs.length)*esz<=cap*esz:=Aif _ hle
 rw[AhU]at W
 have hsz:(cur.toList.take (es.length*esz)++news++cur.toList.drop (es.length*esz+news.length)).toArray.size=cur.size:=by
  simp only[List.size_toArray,Ahv,Ahx,AhT,AhX]
  omega
 have Z:=setRow_heap w (ρ r) cur (cur.toList.take (es.length*esz)++news++cur.toList.drop (es.length*esz+news.length)).toArray ty mk hh
 have N:∀j,j<es.length*esz->(w.setRow (ρ r) (cur.toList.take (es.length*esz)++news++cur.toList.drop (es.length*esz+news.length)).toArray).cell? ⟨ρ r,j,none⟩=w.cell? ⟨ρ r,j,none⟩:=fun j hj=>by
  rw[cell_of_row _ _ j _ ty _ Z,cell_of_row _ _ j cur ty _ hh]
  have h1:j<(cur.toList.take (es.length*esz)++news).length:=by
   simp only[Ahv,Ahx,AhX];omega
  have h2:j<(cur.toList.take (es.length*esz)).length:=by
   simp only[Ahx,AhX];omega
  rw[List.getElem?_toArray,AhC h1,AhC h2,AhN,Ahl hj]
  simp
 have Y:=Ok.setRow (w':=w.setRow (ρ r) (cur.toList.take (es.length*esz)++news++cur.toList.drop (es.length*esz+news.length)).toArray) (S':=S) (g:=ρ r) (row':=.cs ty esz (es++xs) base false) a3 u (EH w _ _) (.inl rfl) (fun _ h=>h) (fun b h=>.inl h)
  (fun b hb=>setRow_other w _ b _ (fun e=>J (e ▸ hb)))
  (fun ty1 esz1 es1 base1 fz1 e=>by
   cases e
   refine⟨es++xs,base,false,rfl,by simp,Ahk _,fun b ver h1 h2 hA=>?_,fun e=>by simp at e;exact absurd e a2⟩
   rcases hA with hA|⟨a1,hv,hc⟩
   ·exact .inl hA
   ·refine .inr ⟨a1,by rw[Ahv];omega,fun j hj=>?_⟩
    have:ver*esz<=es.length*esz:=Aif _ h1
    rw[N j (by omega),World.cell?_of_block (a:=⟨b,j,none⟩) (setRow_other w (ρ r) b _ (fun e=>J (e ▸ a1)))]
    exact hc j hj)
  (fun es1 fz1 e=>by cases e)
  (fun a0=>by
   rw[Jo]at a0 ⊢
   refine⟨by simp;omega,U,E.append hU,fun e=>(by cases e),fun _=>J,_,cap,mk,Z,fun _=>(by rw[hsz];exact hw),by omega,by simp;omega,hcm,?_⟩
   have:(cur.toList.take (es.length*esz)++news++cur.toList.drop (es.length*esz+news.length)).toArray.toList.take ((es++xs).length*esz)=cur.toList.take (es.length*esz)++news:=by
    rw[List.toList_toArray,Ahv,AhU,List.take_append_of_le_length (by simp only[Ahv,Ahx,AhX];omega),
     Ahz (by simp only[Ahv,Ahx,AhX];omega)]
   rw[this,List.flatten_append]
   exact(hr.append hn).mono a0)
 rw[Jo]at Y
 exact Y
theorem Xw {r:Nat}{es:L0}{arr:Array Value}{u:Nat}(E:Ok w S ρ β M)(J:M.H[r]? = some (.cs ty esz es base false))(hh:w.heap[ρ r]? = some (.cells cur ty mk)) 
  (hU:Uni esz xs) (a4:xs≠[]) (hcap:cur.size=cap*esz) (a5:es.length<=cap) (hnl:news.length=xs.length*esz) (hr:RepL w S ρ M.H es.flatten (cur.toList.take (es.length*esz))) (hn:RepL w S ρ M.H xs.flatten news)
  (hg:Gw w w' none) (U:w'.heap[w.heap.size]? = some (.cells arr ty (0,0))) (a2:arr.size=u*esz) (hle:es.length+xs.length<=u) (hcm:u<=maxLen) (W:arr.toList.take ((es.length+xs.length)*esz)=cur.toList.take (es.length*esz)++news) :
  Ok w' (fun b=>S b\/b=ρ r) (fun k=>if k=r then w.heap.size else ρ k) β { M with H:=M.H.set r (.cs ty esz (es++xs) base false) } /\
   Stp w S ρ β M w' (fun b=>S b\/b=ρ r) (fun k=>if k=r then w.heap.size else ρ k) (M.H.set r (.cs ty esz (es++xs) base false)):=by
 obtain⟨hb,a1,Z,_,hns,_⟩:=E.rows r _ J
 have Z:Uni esz es:=Z
 have hnS:=hns rfl
 have hxl:0<xs.length:=AiN.2 a4
 have hrl:=(Ahg.1 J).1
 have a6:=E.rlt hrl
 have hmul:es.length*esz<=cap*esz:=Aif _ a5
 have Y:∀b,b<w.heap.size->w'.heap[b]? = w.heap[b]?:=fun b hb=>hg.block b hb (by simp)
 have N:∀j,j<es.length*esz->w'.cell? ⟨w.heap.size,j,none⟩=w.cell? ⟨ρ r,j,none⟩:=fun j hj=>by
  rw[cell_of_row _ _ j _ ty _ U,cell_of_row _ _ j cur ty _ hh]
  have h2:j<(cur.toList.take (es.length*esz)).length:=by
   simp only[Ahx,AhX];omega
  have h3:(arr.toList.take ((es.length+xs.length)*esz))[j]? = (cur.toList.take (es.length*esz)++news)[j]?:=by rw[W]
  rw[AhN,Ahl (by rw[AhU];omega),AhC h2,AhN,Ahl hj]at h3
  simpa using h3
 refine Ok.setRow (w':=w') (S':=fun b=>S b\/b=ρ r) (g:=w.heap.size) (row':=.cs ty esz (es++xs) base false) E J (Mp hg) (.inr (Ahk _)) (fun _ h=>.inl h) (fun b h=>h)
  (fun b hb=>Y b (E.lt b hb))
  (fun ty1 esz1 es1 base1 fz1 e=>by
   cases e
   refine⟨es++xs,base,false,rfl,by simp,Ahk _,fun b ver h1 h2 hA=>?_,fun e=>by simp at e;exact absurd e a4⟩
   have hm2:ver*esz<=es.length*esz:=Aif _ h1
   rcases hA with hA|⟨a3,hv,hc⟩
   ·subst hA
    refine .inr ⟨.inr rfl,by rw[Ahv];omega,fun j hj=>?_⟩
    rw[N j (by omega)]
    exact World.cell?_of_block (a:=⟨ρ r,j,none⟩) (Y _ a6)
   ·refine .inr ⟨.inl a3,by rw[Ahv];omega,fun j hj=>?_⟩
    rw[N j (by omega),World.cell?_of_block (a:=⟨b,j,none⟩) (Y b (E.lt b a3))]
    exact hc j hj)
  (fun es1 fz1 e=>by cases e)
  (fun hto=>?_)
 have a0:(if r=r then w.heap.size else ρ r)=w.heap.size:=Ahl rfl
 refine⟨by simp;omega,a1,Z.append hU,fun e=>(by cases e),fun _=>?_,arr,u,(0,0),by simpa[a0]using U,fun _=>.inl rfl,a2,by simpa using hle,hcm,?_⟩
 ·show ¬(S (if r=r then w.heap.size else ρ r)\/(if r=r then w.heap.size else ρ r)=ρ r)
  rw[a0]
  rintro (h|h)
  ·have:=E.lt _ h;omega
  ·omega
 ·rw[Ahv,W,List.flatten_append]
  exact(hr.append hn).mono hto
variable {cs:Value}
theorem Rp {s:V}(h:RepX w S ρ β H s cs)(hs:(∃l,s=.m (.sl l))\/(∃l,s=.ls l)\/s=.m (.nl 4) \/ ∃r ver esz st len lim,s=.sl r ver esz st len lim):∃ad n cap,cs=.slice ad n cap/\n<=cap:=by
 rcases hs with ⟨l,rfl⟩|⟨l,rfl⟩|rfl|⟨r,ver,esz,st,len,lim,rfl⟩
 ·obtain⟨ad,cap,rfl,u,_⟩:=Ee (RepX.toV rfl h).imm
  exact⟨ad,_,cap,rfl,u⟩
 ·have h:=RepX.toV rfl h
  cases h
  exact⟨_,_,_,rfl,Ahk _⟩
 ·have:=ET (RepX.toV rfl h)
  exact⟨_,_,_,this,Ahk _⟩
 ·have h:=RepX.toV rfl h
  cases h
  exact⟨_,_,_,rfl,‹_›⟩
variable {c:Go.Call} {t t1 e:TypeId} {u1:TypeDesc} {bytes:Nat}
theorem PS {z:Value}{i:TypeInfo}{x:Value}{s val:V}(ho:o.op=.call c)(hb:c.callee=.builtin .append)(h0:c.argTypes[0]? = some t)(h1:c.argTypes[1]? = some t1)(ht:P.underlying t=some (.slice e))(a7:P.underlying t1=some u1)(hn:(∃e',u1=.slice e')\/u1=.string) 
  (hi:P.info? e=some i) (hz:i.zero=some z) (b1:z.cells.size=i.size) (Z:i.size=esz) (b3:i.bytes=bytes) (hpos:1<=esz) (b4:1<=bytes) (a2:Ok w S ρ β M) (hm:c.args.map a.eval=#[cs,x]) (h:RepX w S ρ β M.H s cs)
  (hs:Uni esz xs -> ∃news,Src P w esz xs.length x news/\news.length=xs.length*esz/\RepL w S ρ M.H xs.flatten news)
  (W:EK M e esz bytes s xs=some (val,M')):Outc w S ρ β M (.l (.app e esz bytes)) val M' ((execOp a.eval o).run P w):=by
 unfold EK at W
 split at W
 ·have hU:Uni esz ([]:L0):=fun y hy=>by simp at hy
  obtain⟨news,J,U,_⟩:=hs hU
  have:news=[]:=AhJ (by simpa using U)
  subst this
  have hf:s=val/\M=M'/\((∃l,s=.m (.sl l))\/(∃l,s=.ls l)\/s=.m (.nl 4) \/ ∃r ver esz st len lim,s=.sl r ver esz st len lim):=by
   split at W <;> first|(cases W;done)|(simp only[Ahe,Ahf]at W;exact⟨W.1,W.2,by simp⟩)
  obtain⟨rfl,rfl,hf⟩:=hf
  obtain⟨ad,n,cap,rfl,hle⟩:=Rp h hf
  subst Z
  exact .val a2 h (AD ho hb (fun _=>by rw[hm];rfl) (XV h0 h1 ht a7 hn hi J hle))
 ·rename_i y ys
  generalize hxs:y::ys=xs at W hs
  have hne:xs≠[]:=by rw[<-hxs];simp
  have hxl:0<xs.length:=AiN.2 hne
  have a5:∀ {l:L0} {q:V×Mem},Bv M e esz bytes l=some q->Uni esz l:=fun {l q} h=>by
   simp only[Bv,Ag,Ahi,Ahu,AhB]at h
   exact fun e W=>(h.1.2 e W).1
  split at W
  ·have hc:=ET (RepX.toV rfl h)
   subst hc
   obtain⟨news,J,U,a1⟩:=hs (a5 W)
   exact Ol (es0:=[]) (olds:=[]) ho hb h0 h1 ht a7 hn hi hz b1 Z b3 b4 a2 hm J U a1 Src.none (by simp) .nil (by simpa using hxl) W
  ·rename_i E
   have hU:=a5 W
   have a4:Uni esz xs:=fun q hq=>hU q (List.mem_append_right _ hq)
   have hUe:Uni esz (Bn E):=fun q hq=>hU q (List.mem_append_left _ hq)
   obtain⟨news,J,U,a1⟩:=hs a4
   obtain⟨olds,a6,a3,hor⟩:=Nz (P:=P) a2 h (show elems M.H (.ls E)=some (Bn E) from rfl) esz hUe
   have h':=RepX.toV rfl h
   cases h' with|ls _ ad hI =>
   rw[<-immS_len E]at hm a6
   exact Ol (es0:=Bn E) ho hb h0 h1 ht a7 hn hi hz b1 Z b3 b4 a2 hm J U a1 a6 a3 hor (by omega) W
  ·rename_i r ver esz0 st len lim
   simp only[Ahd,AT]at W
   obtain⟨row,Y,W⟩:=W
   split at W
   ·rename_i ty' esz' E base fz
    split at W
    ·simp only[Ag,Ahi,AhS,AhB]at W
     obtain⟨⟨⟨hbv,rfl⟩,rfl⟩,W⟩:=W
     have hU:=a5 W
     have a4:Uni esz xs:=fun q hq=>hU q (List.mem_append_right _ hq)
     have hUe:Uni esz ((E.drop st).take len):=fun q hq=>hU q (List.mem_append_left _ hq)
     obtain⟨news,J,U,a1⟩:=hs a4
     have hel:elems M.H (.sl r ver esz st len true)=some ((E.drop st).take len):=by
      simp only[elems,AT,Y,Ahp,Nat.beq_refl,Bool.and_true,Ag,AhS,and_true]
      exact hbv
     obtain⟨olds,a6,a3,hor⟩:=Nz (P:=P) a2 h hel esz hUe
     have h':=RepX.toV rfl h
     cases h' with|sl _ _ _ _ _ _ ty2 es2 base2 fz2 ad cap N g1 g2 g3 g4 g5 gn gb ga =>
     rw[Y]at N
     simp only[Ahe,Row.cs.injEq]at N
     obtain⟨rfl,_,rfl,rfl,rfl⟩:=N
     have hcl:=g5 rfl
     subst hcl
     have a9:((E.drop st).take cap).length=cap:=by rw[Ahx,AhT];omega
     rw[a9]at a6
     exact Ol (es0:=(E.drop st).take cap) (olds:=olds) (sCap:=cap) (ad:=ad) ho hb h0 h1 ht a7 hn hi hz b1 Z b3 b4 a2 (by rw[a9];exact hm) J U a1 (by rw[a9];exact a6) a3 hor (by omega) W
    ·simp only[Ag,Ahi,AhS,AhB,AhQ,Ahd,Ahe,Ahf,Ahu]at W
     obtain⟨⟨⟨⟨⟨⟨⟨⟨⟨rfl,rfl⟩,rfl⟩,hz0⟩,rfl⟩,rfl⟩,rfl⟩,hbs⟩,hall⟩,H',hH',rfl,rfl⟩:=W
     have hz0:=hz0.symm
     subst hz0
     obtain⟨hrl,rfl⟩:=By hH'
     have a4:Uni esz xs:=fun q hq=>(hall q hq).1
     obtain⟨news,J,U,a1⟩:=hs a4
     have h':=RepX.toV rfl h
     cases h' with|sl _ _ _ _ _ _ ty2 es2 base2 fz2 ad cap N g1 g2 g3 g4 g5 gn gb ga =>
     rw[Y]at N
     simp only[Ahe,Row.cs.injEq]at N
     obtain⟨rfl,_,rfl,rfl,rfl⟩:=N
     obtain⟨rfl,cur,mk,hh,hcs⟩:=ga rfl rfl rfl rfl
     obtain⟨hbl,_,hU0,_,hns,cur',cap',mk',hh',b2,hcs',hcap,hcm,hr⟩:=a2.rows r _ Y
     rw[hh]at hh'
     simp only[Ahe,Obj.cells.injEq]at hh'
     obtain⟨rfl,_,rfl⟩:=hh'
     have b2:=b2 rfl
     have hone:∀u,u∈news->u.oneCell'=true:=Ih (by
      rw[Ahu]
      intro y hy
      obtain⟨l,hl,hyl⟩:=List.mem_flatten.1 hy
      exact(hall l hl).2 y hyl) a1
     have hmul:cap=cap':=Nat.eq_of_mul_eq_mul_right hpos (by rw[<-hcs,hcs'])
     subst hmul
     by_cases a0:E.length+xs.length<=cap
     ·have hm2:(E.length+xs.length)*esz<=cap*esz:=Aif _ a0
      rw[AhU]at hm2
      subst Z
      have a':=XU (ty:=o.type) h0 h1 ht a7 hn hi J U hh b2 hone a0 (by omega)
      obtain⟨b0,hst⟩:=AbG a2 Y hh b2 a4 hne hcs a0 hcm U hr a1
      refine⟨_,.slice (some ⟨ρ r,0,none⟩) (E.length+xs.length) cap,_,_,_,_,AD ho hb (fun _=>by rw[hm];rfl) a',.inl rfl,b0,hst,RepX.ofV ?_,fun _ _=>rfl,fun d hd=>.inl ⟨d,hd,rfl⟩⟩
      refine .sl r _ _ 0 _ false e (E++xs) base false _ cap (by simp[hrl]) (by omega) (by simp) a0 hcm (fun h=>by cases h) ⟨_,rfl⟩ (fun _ _=>⟨ρ r,by simp,.inl rfl⟩) (fun _ _ _ _=>⟨rfl,_,mk,setRow_heap w (ρ r) cur _ e mk hh,?_⟩)
      simp only[List.size_toArray,Ahv,Ahx,AhT,AhX]
      omega
     ·have h47:E.length+xs.length<=140737488355328:=by
       have:(E.length+xs.length)*1<=(E.length+xs.length)*bytes:=Nat.mul_le_mul_left _ b4
       omega
      have h63:E.length+xs.length<=maxLen:=by unfold maxLen;omega
      have a3:(cur.toList.take (E.length*esz)).length=E.length*esz:=by
       have:E.length*esz<=cap*esz:=Aif _ hcap
       simp only[Ahx,AhX];omega
      have a6:Src P w esz E.length (.slice (some ⟨ρ r,0,none⟩) E.length cap) (cur.toList.take (E.length*esz)):=Src.slice' a3 rfl fun j u hj=>by
       rw[Aih,cell_of_row w _ j cur e _ hh]
       rw[AhN]at hj
       split at hj
       ·simpa using hj
       ·cases hj
      subst Z;subst b3
      have a':=PR (P:=P) (w:=w) (ty:=o.type) h0 h1 ht a7 hn hi hz J a6 (by omega) h63 hbs
      have hcm':=grownCap_le_maxLen w (E.length+xs.length) cap e h63
      have hge:=grownCap_ge w (E.length+xs.length) cap e
      have hnew:=heap_alloc_new w.drew (.cells ((cur.toList.take (E.length*i.size)).toArray++news.toArray++Builtin.zeroCells z.cells (grownCap w (E.length+xs.length) cap e-(E.length+xs.length))) e)
      have a8:((cur.toList.take (E.length*i.size)).toArray++news.toArray++Builtin.zeroCells z.cells (grownCap w (E.length+xs.length) cap e-(E.length+xs.length))).size=grownCap w (E.length+xs.length) cap e*i.size:=by
       simp only[Array.size_append,List.size_toArray,SB,b1,a3,U,<-AhU]
       congr 1
       omega
      obtain⟨b0,hst⟩:=Xw (w':=w.drew.alloc _) a2 Y hh a4 hne hcs hcap U hr a1 (Er w _) hnew a8 hge hcm' (by
       simp only[Array.toList_append]
       rw[List.take_append_of_le_length (by simp only[Ahv,a3,U,AhU];omega),Ahz (by simp only[Ahv,a3,U,AhU];omega)])
      refine⟨_,_,_,_,_,_,AD ho hb (fun _=>by rw[hm];rfl) a',.inl rfl,b0,hst,RepX.ofV ?_,fun _ _=>rfl,fun d hd=>.inl ⟨d,hd,rfl⟩⟩
      exact .sl r _ _ 0 _ false e (E++xs) base false _ _ (by simp[hrl]) (by omega) (by simp) hge hcm' (fun h=>by cases h) ⟨_,rfl⟩ (fun _ _=>⟨w.heap.size,by simp,.inl (by simp)⟩) (fun _ _ _ _=>⟨by simp,_,(0,0),by simpa using hnew,a8⟩)
   ·cases W
  ·cases W
theorem SU {zs:List V}(ho:o.op=.call c)(hb:c.callee=.builtin .append)(W:c.argTypes[0]? = some t)(h1:c.argTypes[1]? = some t1)(ht:P.underlying t=some (.slice e))(a1:P.underlying t1=some u1)(hn:(∃e',u1=.slice e')\/u1=.string) 
  (hz:Dv P e=some zs) (hs:BD P e=some esz) (hby:JM P e=some bytes) (E:1<=esz) (a2:1<=bytes):S6 o a P w S ρ β M vs v M' call (.app e esz bytes) (c.args.toList.map a.eval):=fun U hv u=>by
 obtain⟨i,z,hi,a3,Y,_⟩:=CE hz
 obtain⟨i',Z,a0⟩:=AR.1 hs
 obtain⟨i'',J,a4⟩:=ID.1 hby
 rw[hi]at Z J
 cases Z;cases J
 match vs,u with
 | [s,x],u =>
  obtain⟨cs,cx,N,h,hx⟩:=hv.inv2
  have hm:=AbX N
  simp only[An]at u
  split at u
  ·rename_i l
   refine PS ho hb W h1 ht a1 hn hi a3 Y a0 a4 E a2 U hm h (fun hU=>?_) u
   cases l with
   | nil =>
    obtain⟨s,rfl,hl⟩:=Eh (RepX.toV rfl hx)
    have W:s.size=0:=by
     have:=AiE List.length hl
     simpa using this
    have:=Src.string (P:=P) (w:=w) (size:=esz) s
    have hc:Lib.strCells s=[]:=AhJ (by rw[Lib.strCells_length];exact W)
    rw[W,hc]at this
    exact⟨[],this,by simp,.nil⟩
   | cons d l =>
    have h1:esz=1:=by have:=hU [V.m (.i .u8 (Int.ofNat d))] (by simp);simpa using this.symm
    exact Aax hx esz h1
  ·simp only[Ahd]at u
   obtain⟨xs,hxs,u⟩:=u
   exact PS ho hb W h1 ht a1 hn hi a3 Y a0 a4 E a2 U hm h (fun hU=>Nz U hx hxs esz hU) u
end
end Go.Mx
namespace Go.Mx
section
variable {P:Program} {w:World} {S:Nat->Prop} {ρ β:Nat->Nat} {M M':Mem} {H:Hp} {o:Oper} {a:Act} {vs:List V} {v:V} {call:Bt} {hi:Hint} {gl:Nat->Option (List I)} {rd:Option Nat}
def GlOk (gl:Nat->Option (List I))(w:World)(S:Nat->Prop):Prop:=∀g cs,gl g=some cs->RepI w S (.pt cs) (.pointer (some ⟨g,0,none⟩))
theorem GlOk.step {w':World}{S':Nat->Prop}{ρ':Nat->Nat}{H':Hp}(h:GlOk gl w S)(k:Stp w S ρ β M w' S' ρ' H'):GlOk gl w' S':=fun g cs u=>k.imm (h g cs u)
def Hm (P : Program) (f : Nat) : Prop := ∃ fn, P.funcs[f]? = some fn /\ (fn.name == "runtime.NumGoroutine") = false /\ fn.body.isNone = false
def Nu (w:World)(S:Nat->Prop)(ρ β:Nat->Nat)(M:Mem)(v:V)(H':Hp)(e:Ending)(w':World):Prop :=
 ∃c S' ρ',e=.returned c/\Ok w' S' ρ' β ⟨M.B,H'⟩/\Stp w S ρ β M w' S' ρ' H'/\RepV w' S' ρ' H' v c
def Dt (P:Program)(gl:Nat->Option (List I))(call:Bt):Prop:=∀f vs H v H',call f vs H=some (v,H') ->
 (f≠yN->Hm P f /\ ∀(w:World) S ρ β B (args:Array Value),Ok w S ρ β ⟨B,H⟩->GlOk gl w S->All2 (RepX w S ρ β H) vs args.toList->Calls P f args w (Nu w S ρ β ⟨B,H⟩ v H')) /\
 (f=yN -> ∃r xs,vs=.yl r::xs /\ ∀(w:World) S ρ β B (args:Array Value),Ok w S ρ β ⟨B,H⟩->GlOk gl w S->All2 (RepX w S ρ β H) xs args.toList -> ∃rec:Loop,w.heap[ρ r]? = some (.loop rec)/\args.size=rec.params.size /\
  RoundIn Fence.wide 0 P (ρ r) rec.fn ((rec.params.zip args).foldl (fun tmps (t,a)=>tmps.setIfInBounds t a) rec.tmps) rec.assign rec.body w (Nu w S ρ β ⟨B,H⟩ v H'))
abbrev FW (rd:Option Nat):Fence:={ Fence.wide with round:=rd }
theorem Kf (u:∀c,o.op ≠ .defer c):o.semAt (FW rd).round a.eval=execOp a.eval o:=by
 cases rd with
 | none=>rfl
 | some l=>exact Oper.semAt_some l _ _ u
variable {f:Nat} {args:Array Value}
theorem JL {n:Nat}{R:Ending->World->Prop}(h:Calls P f args w R):CallsIn (FW rd) n P f args w R:=(callsIn_wide (n:=n)).2 h
structure Nxt (w:World)(S:Nat->Prop)(ρ β:Nat->Nat)(M:Mem)(q:O)(v:V)(M':Mem)(w':World)(S':Nat->Prop)(ρ' β':Nat->Nat)(c:Value):Prop where
 ok:Ok w' S' ρ' β' M'
 stp:Stp w S ρ β M w' S' ρ' M'.H
 rep:RepX w' S' ρ' β' M'.H v c
 own:∀d,dof q≠some d->β' d=β d
 box:∀d,(getB M'.B d).isSome->(∃q,(getB M.B q).isSome/\β' d=β q)\/w.heap.size<=β' d
variable {q:O} {next:Act->World->Prop} {Q:Exit->Act->World->Prop}
theorem Outc.wp (h:Outc w S ρ β M q v M' ((execOp a.eval o).run P w)) 
  (u:∀c,o.op ≠ .defer c) (N:∀w' S' ρ' β' c,Nxt w S ρ β M q v M' w' S' ρ' β' c->next (a.put o.dst c) w'):o.wpIn (FW rd) 0 P a w next Q:=by
 obtain⟨nx,c,w',S',ρ',β',hr,Z,J,U,Y,E,W⟩:=h
 refine⟨fun _ _=>AhY,?_⟩
 rw[Kf u,hr]
 rcases Z with rfl|⟨rfl,rfl⟩
 ·exact N _ _ _ _ _ ⟨J,U,Y,E,W⟩
 ·exact N _ _ _ _ _ ⟨J,U,Y,E,W⟩
variable {xs:List V}
theorem Oc {H':Hp}(N:f≠yN)(E:∀c,o.op ≠ .defer c)(hq:dof q=none)(u:Dt P gl call)(U:Ok w S ρ β M)(W:GlOk gl w S)(hc:call f xs M.H=some (v,H')) 
  (hx:All2 (RepX w S ρ β M.H) xs args.toList) (hr:Hm P f->(execOp a.eval o).run P w=.ok (.enter f args) w)
  (Z:∀w' S' ρ' β' c,Nxt w S ρ β M q v { M with H:=H' } w' S' ρ' β' c->next (a.put o.dst c) w'):o.wpIn (FW rd) 0 P a w next Q:=by
 obtain⟨J,u⟩:=(u f xs M.H v H' hc).1 N
 refine⟨fun _ _=>AhY,?_⟩
 rw[Kf E,hr J,Oper.uponIn_enter]
 refine⟨fun h=>by simp[Fence.wide]at h,(JL (u w S ρ β M.B args U W hx)).mono fun e w' h=>?_⟩
 obtain⟨c,S',ρ',rfl,Y,h2,h3⟩:=h
 exact Z w' S' ρ' β c ⟨Y,h2,RepX.ofV h3,fun _ _=>rfl,fun d hd=>.inl ⟨d,hd,rfl⟩⟩
theorem All2.append {J β:Type}{R:J->β->Prop}{l E:List J}{m u:List β}(h:All2 R l m)(k:All2 R E u):All2 R (l++E) (m++u):=by
 induction h with
 | nil=>exact k
 | cons h t N=>exact .cons h N
theorem RepL.toAll2 {cs:List Value}(h:RepL w S ρ H xs cs):All2 (RepX w S ρ β H) xs cs :=
 All2.ofGet h.1 fun j x E=>let ⟨c,u,J⟩:=h.2 j x E;⟨c,u,RepX.ofV J⟩
variable {c:Go.Call} {g:Operand}
theorem HZ {az:Array Value}(U:o.op=.call c)(N:c.callee=.value g)(Y:a.eval g=.func (.func f) #[] az)(E:Hm P f):(execOp a.eval o).run P w=.ok (.enter f (c.args.map a.eval++az)) w:=by
 obtain⟨fn,W,u,J⟩:=E
 have u : ¬ fn.name = "runtime.NumGoroutine" := by simpa using u
 have J:¬fn.body=none:=by rintro e;simp[e]at J
 simp[execOp,U,resolve,N,Deferred.ofValue,Y,invoke,callFunc,W,u,J]
theorem AaP (E:f≠yN)(U:o.op=.call c)(Z:c.callee=.value (.func f))(u:Dt P gl call)(J:Ok w S ρ β M)(W:GlOk gl w S) 
  (hv:All2 (RepX w S ρ β M.H) vs (c.args.toList.map a.eval)) (N:An call M (.cal f) vs=some (v,M')) (Y:∀w' S' ρ' β' x,Nxt w S ρ β M (.l (.cal f)) v M' w' S' ρ' β' x->next (a.put o.dst x) w'):o.wpIn (FW rd) 0 P a w next Q:=by
 simp only[An,Ahd,Ahe,Ahf]at N
 obtain⟨⟨r,H'⟩,hr,rfl,rfl⟩:=N
 exact Oc E (fun d e=>by rw[U]at e;cases e) rfl u J W hr (args:=c.args.map a.eval ++ #[]) (by simpa using hv) (HZ U Z rfl) Y
theorem AaO (W:o.op=.call c)(hc:c.callee=.value g)(u:Dt P gl call)(U:Ok w S ρ β M)(hG:GlOk gl w S) 
  (hv:All2 (RepX w S ρ β M.H) vs ((g::c.args.toList).map a.eval)) (E:An call M .cav vs=some (v,M')) (hn:∀w' S' ρ' β' x,Nxt w S ρ β M (.l .cav) v M' w' S' ρ' β' x->next (a.put o.dst x) w'):o.wpIn (FW rd) 0 P a w next Q:=by
 match vs,E with
 | x::xs,E =>
  simp only[AhL]at hv
  generalize hg:a.eval g=cg at hv
  cases hv with|cons h t =>
  simp only[An]at E
  split at E
  ·rename_i f cap
   simp only[Ahd,Ahe,Ahf]at E
   obtain⟨⟨r,H'⟩,hr,rfl,rfl⟩:=E
   obtain⟨N,cs,rfl,hcs⟩:=(RepX.toV rfl h).fnL
   exact Oc N (fun d e=>by rw[W]at e;cases e) rfl u U hG hr (args:=c.args.map a.eval++cs) (by simpa using All2.append t (RepL.toAll2 hcs)) (HZ W hc hg) hn
  ·rename_i f cap
   simp only[Ahd,Ahe,Ahf]at E
   obtain⟨⟨r,H'⟩,hr,rfl,rfl⟩:=E
   have hI:=(RepX.toV rfl h).imm
   cases hI with|fn _ N _ cs hl ci hci hri =>
   exact Oc N (fun d e=>by rw[W]at e;cases e) rfl u U hG hr (args:=c.args.map a.eval++cs) (by simpa using All2.append t (RepL.toAll2 (RepL.ofI hl ci hci hri))) (HZ W hc hg) hn
  ·rename_i r
   simp only[Ahd,Ahe,Ahf]at E
   obtain⟨⟨v',H'⟩,hr,rfl,rfl⟩:=E
   obtain⟨r',xs',hx,u⟩:=(u _ _ _ _ _ hr).2 rfl
   cases hx
   obtain⟨J,Y,hsz,hrd⟩:=u w S ρ β M.B (c.args.map a.eval) U hG (by simpa using t)
   have hcg:cg=.func (.yield (ρ r)) #[] #[]:=by
    have h:=RepX.toV rfl h
    cases h;rfl
   subst hcg
   refine⟨fun _ _=>AhY,?_⟩
   have hy:=run_yield (P:=P) Y hsz
   have hrun:(execOp a.eval o).run P w=.ok (.round (ρ r) J.fn ((J.params.zip (c.args.map a.eval)).foldl (fun Z (t,a)=>Z.setIfInBounds t a) J.tmps) J.assign J.body) w:=by
    simp only[execOp,W,resolve,hc,Deferred.ofValue,hg,invoke,Sem.run_bind,Sem.run_pure,Result.andThen_ok,Array.empty_append]
    exact hy
   rw[Kf (fun d e=>by rw[W]at e;cases e),hrun,Oper.uponIn_round]
   refine⟨fun h=>by simp[Fence.wide]at h,RoundIn.mono (F:=FW rd) hrd fun e w' h=>?_⟩
   obtain⟨c',S',ρ',rfl,h1,h2,h3⟩:=h
   exact hn w' S' ρ' β c' ⟨h1,h2,RepX.ofV h3,fun _ _=>rfl,fun d hd=>.inl ⟨d,hd,rfl⟩⟩
  ·cases E
theorem If {b:Bool}{u:O}{l E:List Operand}(h:Abj b q l=some (u,E)):b=true/\q=u/\l=E:=by
 cases b <;> simp[Abj,gd]at h
 exact⟨rfl,h.1,h.2⟩
theorem BH {x:OP}(h:evO call M (.p x) vs=some (v,M')):Aq x vs=some v/\M'=M:=by
 simp only[evO,Ahd,Ahe,Ahf]at h
 obtain⟨u,h,rfl,rfl⟩:=h
 exact⟨h,rfl⟩
theorem EI {x:OR}(h:evO call M (.r x) vs=some (v,M')):readX M x vs=some v/\M'=M:=by
 simp only[evO,Ahd,Ahe,Ahf]at h
 obtain⟨u,h,rfl,rfl⟩:=h
 exact⟨h,rfl⟩
theorem Xs {x:V}(h:Mg x=true):∃l,x=.m (.s l):=by
 unfold Mg at h
 split at h
 ·exact⟨_,rfl⟩
 ·cases h
variable {az:List Operand} {x y:Operand} {t ty:TypeId}
theorem ME {neg:Bool}(U:o.op=.binOp (Su neg) t x y ty)(u:XJ P neg t x y=some (q,az))(hQ:okO q=true)(E:Ok w S ρ β M)(N:All2 (RepX w S ρ β M.H) vs (az.map a.eval))(J:evO call M q vs=some (v,M')):
  Outc w S ρ β M q v M' ((execOp a.eval o).run P w):=by
 unfold XJ at u
 split at u
 ·rename_i hu
  simp only[Ahe,Ahf]at u
  obtain⟨rfl,rfl⟩:=u
  obtain⟨h,rfl⟩:=BH J
  exact AaN U hu E N h
 ·split at u
  ·rename_i ks hf
   simp only[Ahe,Ahf]at u
   obtain⟨rfl,rfl⟩:=u
   obtain⟨h,rfl⟩:=BH J
   exact AaM U hf E N h
  ·simp only[Ahd]at u
   obtain⟨k,W,u⟩:=u
   split at u
   ·rename_i Y
    simp only[Ahe,Ahf]at u
    obtain⟨rfl,rfl⟩:=u
    obtain⟨h,rfl⟩:=BH J
    exact SS U W (.inl ⟨Y,rfl⟩) E N h
   ·split at u
    ·rename_i Z
     simp only[Ahe,Ahf]at u
     obtain⟨rfl,rfl⟩:=u
     obtain⟨h,rfl⟩:=BH J
     exact SS U W (.inr ⟨Z,rfl⟩) E N h
    ·cases u
theorem RJ {b:BinOp}(U:o.op=.binOp b t x y ty)(u:TS P b t x y=some (q,az))(W:okO q=true)(E:Ok w S ρ β M)(N:All2 (RepX w S ρ β M.H) vs (az.map a.eval))(J:evO call M q vs=some (v,M')):
  Outc w S ρ β M q v M' ((execOp a.eval o).run P w):=by
 unfold TS at u
 split at u
 ·simp only[Ahe,Ahf]at u
  obtain⟨rfl,rfl⟩:=u
  obtain⟨h,rfl⟩:=BH J
  exact ST U E N h
 ·simp only[Ahe,Ahf]at u
  obtain⟨rfl,rfl⟩:=u
  obtain⟨h,rfl⟩:=BH J
  exact ST U E N h
 ·split at u
  ·exact ME (neg:=false) U u W E N J
  ·exact ME (neg:=true) U u W E N J
  ·cases u
theorem SV {z:Nat}{E u mx:Bool}{x:V}(h:Aq (.slc z E u mx) (x::vs)=some v):Mg x=Nat.beq z 0 :=
 (ZH (Ag.1 (show gd (eqB (Mg x) (Nat.beq z 0)) _=some v from h)).1).symm
theorem AaX {lo Y mx:Option Operand}(ho:o.op=.slice t x lo Y mx)(E:EY P hi o.dst (.slice t x lo Y mx)=some (q,az))(hQ:okO q=true)(J:Ok w S ρ β M)(N:All2 (RepX w S ρ β M.H) vs (az.map a.eval))(he:evO call M q vs=some (v,M')):
  Outc w S ρ β M q v M' ((execOp a.eval o).run P w):=by
 simp only[EY,Ahd]at E
 obtain⟨u,Z,E⟩:=E
 split at E
 ·simp only[Ahe,Ahf]at E
  obtain⟨rfl,rfl⟩:=E
  obtain⟨h,rfl⟩:=BH he
  simp only[AhL]at N
  cases N with|cons U t1 =>
  have W:Mg _=true:=SV h
  obtain⟨l,rfl⟩:=Xs W
  exact NA ho Z J U t1 h
 ·simp only[Ahd,Ag,Ahe,Ahf,AhS]at E
  obtain⟨s,W,h1s,rfl,rfl⟩:=E
  obtain⟨h,rfl⟩:=BH he
  simp only[AhL]at N
  cases N with|cons U t1 =>
  obtain⟨i,hi1,hi2⟩:=AR.1 W
  have hq:Nat.beq s 0=Mg _:=(SV h).symm
  refine AaA ho Z hi1 hi2 J U (fun l hl=>?_) t1 h
  subst hl
  have:s=0:=Ahy hq
  omega
 ·simp only[Ahd,Ahe,Ahf]at E
  obtain⟨s,W,rfl,rfl⟩:=E
  obtain⟨h,rfl⟩:=EI he
  simp only[AhL]at N
  cases N with|cons U t1 =>
  exact OY ho (.inl Z) W J U t1 h
 ·rename_i at'
  split at E
  ·rename_i hu'
   simp only[Ahd,Ahe,Ahf]at E
   obtain⟨s,W,rfl,rfl⟩:=E
   obtain⟨h,rfl⟩:=EI he
   simp only[AhL]at N
   cases N with|cons U t1 =>
   exact OY ho (.inr ⟨_,Z,hu'⟩) W J U t1 h
  ·cases E
 ·cases E
theorem XM (U:o.op=.call c)(u:EY P hi o.dst (.call c)=some (q,az))(hQ:okO q=true)(a0:Dt P gl call)(E:Ok w S ρ β M)(hG:GlOk gl w S) 
  (Z:All2 (RepX w S ρ β M.H) vs (az.map a.eval)) (Y:evO call M q vs=some (v,M')) (W:∀w' S' ρ' β' x,Nxt w S ρ β M q v M' w' S' ρ' β' x->next (a.put o.dst x) w'):o.wpIn (FW rd) 0 P a w next Q:=by
 have J:∀c,o.op ≠ .defer c:=fun d e=>by rw[U]at e;cases e
 simp only[EY]at u
 split at u
 ·rename_i f hcv
  split at u
  ·rename_i g
   simp only[Ag,Ahe,Ahf]at u
   obtain⟨hny,rfl,rfl⟩:=u
   exact AaP (fun e=>by subst e;simp at hny) U hcv a0 E hG Z Y W
  ·simp only[Ahe,Ahf]at u
   obtain⟨rfl,rfl⟩:=u
   exact AaO U hcv a0 E hG Z Y W
 ·cases u
 ·rename_i b hb
  simp only[Ahd]at u
  obtain⟨t0,h0,u0,N,u⟩:=u
  split at u
  ·split at u
   ·obtain⟨_,rfl,rfl⟩:=If u
    obtain⟨h,rfl⟩:=BH Y
    exact(SR U hb h0 E Z h (fun _=>N) (fun e=>by cases e)).wp J W
   ·obtain⟨_,rfl,rfl⟩:=If u
    obtain⟨h,rfl⟩:=BH Y
    exact(SR U hb h0 E Z h (fun e=>by cases e) (fun _=>⟨_,N⟩)).wp J W
   ·obtain⟨_,rfl,rfl⟩:=If u
    obtain⟨h,rfl⟩:=EI Y
    exact(WK U hb h0 N E Z h).wp J W
   ·cases u
  ·split at u
   ·simp only[Ahe,Ahf]at u
    obtain⟨rfl,rfl⟩:=u
    obtain⟨h,rfl⟩:=BH Y
    exact(Zq (mx:=false) U hb E Z h).wp J W
   ·cases u
  ·split at u
   ·simp only[Ahe,Ahf]at u
    obtain⟨rfl,rfl⟩:=u
    obtain⟨h,rfl⟩:=BH Y
    exact(Zq (mx:=true) U hb E Z h).wp J W
   ·cases u
  ·split at u
   ·rename_i e
    simp only[Ahd,Ag,Ahi,AhS,AhB]at u
    obtain⟨t1,h1,u1,hu1,zs,hz,s,hs,bt,hbt,⟨⟨hs1,hb1⟩,_⟩,u⟩:=u
    split at u
    ·simp only[Ahe,Ahf]at u
     obtain⟨rfl,rfl⟩:=u
     exact(SU U hb h0 h1 N hu1 (.inl ⟨_,rfl⟩) hz hs hbt hs1 hb1 E Z Y).wp J W
    ·split at u
     ·simp only[Ahe,Ahf]at u
      obtain⟨rfl,rfl⟩:=u
      exact(SU U hb h0 h1 N hu1 (.inr rfl) hz hs hbt hs1 hb1 E Z Y).wp J W
     ·cases u
    ·cases u
   ·cases u
  ·split at u
   ·rename_i e
    simp only[Ahd,Ag,Ahi,AhS,AhB]at u
    obtain⟨s,hs,_,t1,h1,u1,hu1,u⟩:=u
    split at u
    ·simp only[Ahe,Ahf]at u
     obtain⟨rfl,rfl⟩:=u
     cases hQ
    ·cases u
   ·cases u
  ·split at u
   ·rename_i e
    split at u
    ·rename_i z hz
     simp only[Ag,Ahe,Ahf]at u
     obtain⟨_,rfl,rfl⟩:=u
     cases hQ
    ·cases u
   ·cases u
  ·split at u
   ·rename_i kt0 e
    simp only[Ahd,Ag,AhB,Ahe,Ahf]at u
    obtain⟨kt,hkt,_,rfl,rfl⟩:=u
    exact(AaF U hb h0 N hkt E Z Y).wp J W
   ·cases u
  ·split at u
   ·obtain⟨_,rfl,rfl⟩:=If u
    obtain⟨h,rfl⟩:=BH Y
    exact(Aaz U hb E Z h).wp J W
   ·cases u
  ·split at u
   ·rename_i e
    simp only[Ahd]at u
    obtain⟨s,hs,u⟩:=u
    obtain⟨hq,rfl,rfl⟩:=If u
    simp only[Ahi,AhB]at hq
    obtain⟨⟨_,hts⟩,rfl⟩:=hq
    exact(Aay U hb h0 hts N hs E Z Y).wp J W
   ·cases u
  ·cases u
theorem Px (h:readX M .ld1 vs=some v):∃r ver ix off ty esz es base fz e,vs=[.pt r ver ix off]/\nth M.H r=some (.cs ty esz es base fz)/\Nat.ble base ver=true/\off<esz/\nth es ix=some e/\nth e off=some v:=by
 match vs,h with
 | [a],h =>
  cases a with
  | pt r ver ix off =>
   simp only[readX,Ahd]at h
   obtain⟨row,u,h⟩:=h
   cases row with
   | cs ty esz es base fz =>
    simp only[Ag,Ahi,Ahd,AiA]at h
    obtain⟨⟨E,J⟩,e,N,U⟩:=h
    exact⟨r,ver,ix,off,ty,esz,es,base,fz,e,rfl,u,E,J,N,U⟩
   | _=>simp at h
  | _=>simp[readX]at h
 | [],h=>simp[readX]at h
 | _::_::_,h=>simp[readX]at h
variable {ag:Bool} {sz:Nat}
theorem Pw (h:readX M (.ldb ag sz) vs=some v):∃d off,vs=[.fa d off]/\readX M (.ld ag sz) [.fa d off]=some v:=by
 match vs,h with
 | [a],h =>
  cases a with
  | fa d off=>exact⟨d,off,rfl,h⟩
  | _=>simp[readX]at h
 | [],h=>simp[readX]at h
 | _::_::_,h=>simp[readX]at h
theorem AeR (h:readX M (.ldb ag sz) vs=some v):readX M (.ld ag sz) vs=some v:=by
 obtain⟨d,off,rfl,h⟩:=Pw h
 exact h
variable {d:Nat}
theorem Pv (h:readX M (.ldx d ag sz) vs=some v):∃a,vs=[a]/\AdR d a=false/\readX M (.ld ag sz) [a]=some v:=by
 match vs,h with
 | [a],h =>
  simp only[readX,Ag,AhQ]at h
  exact⟨a,rfl,h.1,h.2⟩
 | [],h=>simp[readX]at h
 | _::_::_,h=>simp[readX]at h
theorem AeQ (h:readX M (.ldx d ag sz) vs=some v):readX M (.ld ag sz) vs=some v:=by
 obtain⟨a,rfl,_,h⟩:=Pv h
 exact h
theorem AeP {a:V}(u:AdR d a=false)(h:readX M (.ld ag sz) [a]=some v):readX M (.ldx d ag sz) [a]=some v:=by
 simp only[readX,Ag,AhQ]
 exact⟨u,h⟩
theorem LA {call:Bt}(h:An call M (.stb d sz) vs=some (v,M')):∃a x,vs=[a,x]/\AdR d a=true/\An call M (.st sz) [a,x]=some (v,M'):=by
 match vs,h with
 | [a,x],h =>
  simp only[An,Ag]at h
  exact⟨a,x,rfl,h.1,by simp only[An];exact h.2⟩
 | [],h=>simp[An]at h
 | [_],h=>simp[An]at h
 | _::_::_::_,h=>simp[An]at h
theorem Aeo {call:Bt}(h:An call M (.stb d sz) vs=some (v,M')):An call M (.st sz) vs=some (v,M'):=by
 obtain⟨a,x,rfl,_,h⟩:=LA h
 exact h
theorem Ly {call:Bt}(h:An call M (.str sz) vs=some (v,M')):∃a x,vs=[a,x]/\AB a=true/\An call M (.st sz) [a,x]=some (v,M'):=by
 match vs,h with
 | [a,x],h =>
  simp only[An,Ag]at h
  exact⟨a,x,rfl,h.1,by simp only[An];exact h.2⟩
 | [],h=>simp[An]at h
 | [_],h=>simp[An]at h
 | _::_::_::_,h=>simp[An]at h
theorem Aek {call:Bt}(h:An call M (.str sz) vs=some (v,M')):An call M (.st sz) vs=some (v,M'):=by
 obtain⟨a,x,rfl,_,h⟩:=Ly h
 exact h
theorem AeS (h:readX M .ld1 vs=some v):readX M (.ld false 1) vs=some v:=by
 obtain⟨r,Z,ix,off,ty,esz,es,base,fz,e,rfl,u,Y,W,he,J⟩:=Px h
 have hm:off%esz=off:=Nat.mod_eq_of_lt W
 have hd:off / esz=0:=Nat.div_eq_of_lt W
 have N:Nat.ble (off+1) esz=true:=by rw[AhS];omega
 have E:Dw 1 (e.drop off)=some [v]:=by
  rw[AT]at J
  have U:=(Ahg.1 J).1
  rw[AiC U,(Ahg.1 J).2]
  rfl
 simp only[readX,readA,u,Ahp,Y,N,Bool.true_or,Bool.and_self,gd,CW,hm,hd,Nat.add_zero,he,E]
 rfl
theorem AaZ {s:Nat}(h:Nat.ble 1 s=true):s≠0:=by rw[AhS]at h;omega
theorem Zw (E:EY P hi o.dst o.op=some (q,az))(hQ:okO q=true)(hcall:Dt P gl call)(J:Ok w S ρ β M)(hG:GlOk gl w S) 
  (Z:All2 (RepX w S ρ β M.H) vs (az.map a.eval)) (U:evO call M q vs=some (v,M')) (Y:∀w' S' ρ' β' x,Nxt w S ρ β M q v M' w' S' ρ' β' x->next (a.put o.dst x) w'):o.wpIn (FW rd) 0 P a w next Q:=by
 have N:∀c,o.op ≠ .defer c:=fun d e=>by rw[e]at E;simp[EY]at E
 cases hop:o.op with
 | call c=>rw[hop]at E;exact XM hop E hQ hcall J hG Z U Y
 | slice t x lo hi' mx=>rw[hop]at E;exact(AaX hop E hQ J Z U).wp N Y
 | binOp b t x y ty=>rw[hop]at E;exact(RJ hop E hQ J Z U).wp N Y
 | move x =>
  simp only[hop,EY,Ahe,Ahf]at E
  obtain⟨rfl,rfl⟩:=E
  obtain⟨h,rfl⟩:=BH U
  exact(Zp (.inl hop) J rfl Z h).wp N Y
 | assign x =>
  simp only[hop,EY,Ahe,Ahf]at E
  obtain⟨rfl,rfl⟩:=E
  obtain⟨h,rfl⟩:=BH U
  exact(Zp (.inr hop) J rfl Z h).wp N Y
 | pick c x y =>
  simp only[hop,EY,Ahe,Ahf]at E
  obtain⟨rfl,rfl⟩:=E
  obtain⟨h,rfl⟩:=BH U
  exact(WJ hop J Z h).wp N Y
 | alloc t =>
  simp only[hop,EY,Ahd]at E
  obtain⟨zs,hz,d,hd,E⟩:=E
  split at E
  ·simp only[Ahe,Ahf]at E
   obtain⟨rfl,rfl⟩:=E
   exact(AaW hop hz J U).wp N Y
  ·simp only[Ahd,Ahe,Ahf]at E
   obtain⟨s,hs,rfl,rfl⟩:=E
   exact(AaV hop hz J U).wp N Y
 | box t x =>
  simp only[hop,EY,Ahd]at E
  obtain⟨d,hd,E⟩:=E
  split at E
  ·simp only[Ahd,Ahe,Ahf]at E
   obtain⟨s,hs,rfl,rfl⟩:=E
   exact(AaR hop J Z U).wp N Y
  ·simp only[Ahd,Ahe,Ahf]at E
   obtain⟨s,hs,rfl,rfl⟩:=E
   exact(AaQ hop J Z U).wp N Y
 | build t ps =>
  simp only[hop,EY,Ahd]at E
  obtain⟨zs,hz,u,hu,E⟩:=E
  split at E
  ·simp only[Ag,Ahd,Ahe,Ahf]at E
   obtain⟨hall,pl,hpl,rfl,rfl⟩:=E
   obtain⟨h,rfl⟩:=BH U
   exact(Hn hop hz hu hall hpl J Z h).wp N Y
  ·simp only[Ahd,Ahe,Ahf]at E
   obtain⟨s,hs,rfl,rfl⟩:=E
   obtain⟨h,rfl⟩:=BH U
   exact(HU hop hz hu hs J Z h).wp N Y
  ·cases E
 | buildSlice t n ps =>
  simp only[hop,EY,Ahd]at E
  obtain⟨u,hu,E⟩:=E
  split at E
  ·simp only[Ahd,Ag,Ahi,AhS]at E
   obtain⟨s,hs,⟨hl,h1⟩,zs,hz,d,hd,E⟩:=E
   split at E
   ·simp only[Ahe,Ahf]at E
    obtain⟨rfl,rfl⟩:=E
    obtain⟨h,rfl⟩:=BH U
    exact(AaS hop hu hs hl h1 hz J Z h).wp N Y
   ·simp only[Ahe,Ahf]at E
    obtain⟨rfl,rfl⟩:=E
    exact(AaT (call:=call) hop hu hs hl h1 hz J Z U).wp N Y
   ·simp only[Ahe,Ahf]at E
    obtain⟨rfl,rfl⟩:=E
    cases hQ
   ·simp only[Ahe,Ahf]at E
    obtain⟨rfl,rfl⟩:=E
    cases hQ
  ·cases E
 | load t x =>
  simp only[hop,EY,Ahd]at E
  obtain⟨ag,hag,s,hs,E⟩:=E
  split at E
  ·rename_i h1
   simp only[Ahi,AhQ,AhB]at h1
   obtain⟨⟨rfl,rfl⟩,_⟩:=h1
   simp only[Ahe,Ahf]at E
   obtain⟨rfl,rfl⟩:=E
   obtain⟨h,rfl⟩:=EI U
   have W:=OZ hop hag hs (.inr rfl) J Z (AeS h)
   have W:Outc _ _ _ _ _ (.r .ld1) _ _ _:=W
   exact W.wp N Y
  ·simp only[Ag,Aix,AhB,Ahe]at E
   obtain⟨h1,E⟩:=E
   split at E
   ·cases E
    obtain⟨h,rfl⟩:=EI U
    have W:=OZ hop hag hs h1 J Z (AeR h)
    have W:Outc _ _ _ _ _ (.r (.ldb ag s)) _ _ _:=W
    exact W.wp N Y
   ·split at E
    ·cases E
     obtain⟨h,rfl⟩:=EI U
     have W:=OZ hop hag hs h1 J Z (AeQ h)
     have W:Outc _ _ _ _ _ (.r (.ldx ((o.dst.map hi.bs).getD 0-100) ag s)) _ _ _:=W
     exact W.wp N Y
    ·cases E
     obtain⟨h,rfl⟩:=EI U
     exact(OZ hop hag hs h1 J Z h).wp N Y
 | store t x y =>
  simp only[hop,EY]at E
  split at E
  ·simp only[Ahd]at E
   obtain⟨s,hs,E⟩:=E
   split at E
   ·rename_i d9 _
    cases E
    have W:=SP hop hs J Z (Aeo U)
    have W:Outc _ _ _ _ _ (.l (.stb d9 s)) _ _ _:=W
    exact W.wp N Y
   ·split at E
    ·cases E
     have W:=SP hop hs J Z (Aek U)
     have W:Outc _ _ _ _ _ (.l (.str s)) _ _ _:=W
     exact W.wp N Y
    ·cases E
     exact(SP hop hs J Z U).wp N Y
  ·cases E
 | nilCheck x =>
  simp only[hop,EY,Ahe,Ahf]at E
  obtain⟨rfl,rfl⟩:=E
  obtain⟨h,rfl⟩:=BH U
  exact(AaB hop J Z h).wp N Y
 | unOp u t x =>
  simp only[hop,EY,Ahe,Ahf]at E
  obtain⟨rfl,rfl⟩:=E
  obtain⟨h,rfl⟩:=BH U
  exact(Aep hop J Z h).wp N Y
 | convert src d x =>
  simp only[hop,EY,Ahd]at E
  obtain⟨su,hsu,du,hdu,E⟩:=E
  split at E
  ·simp only[Ahe,Ahf]at E
   obtain⟨rfl,rfl⟩:=E
   obtain⟨h,rfl⟩:=BH U
   exact(Aeq hop ⟨_,hsu⟩ hdu J Z h).wp N Y
  ·simp only[Ahe,Ahf]at E
   obtain⟨rfl,rfl⟩:=E
   obtain⟨h,rfl⟩:=BH U
   cases hQ
  ·split at E
   ·split at E
    ·simp only[Ahe,Ahf]at E
     obtain⟨rfl,rfl⟩:=E
     cases hQ
    ·simp only[Ahe,Ahf]at E
     obtain⟨rfl,rfl⟩:=E
     obtain⟨h,rfl⟩:=BH U
     cases hQ
   ·cases E
  ·split at E
   ·simp only[Ahe,Ahf]at E
    obtain⟨rfl,rfl⟩:=E
    obtain⟨h,rfl⟩:=EI U
    exact(AaU hop hsu (by assumption) hdu J Z h).wp N Y
   ·cases E
  ·split at E
   ·simp only[Ag,AhB,Ahe,Ahf]at E
    obtain⟨hsd,rfl,rfl⟩:=E
    cases hQ
   ·cases E
  ·cases E
 | makeFunc fn first cap =>
  simp only[hop,EY]at E
  split at E
  ·split at E
   ·simp only[Ag,Ahe,Ahf]at E
    obtain⟨hny,rfl,rfl⟩:=E
    obtain⟨h,rfl⟩:=BH U
    exact(AaE (fun e=>by subst e;simp at hny) hop (Array.eq_empty_of_size_eq_zero (by assumption)) J Z h).wp N Y
   ·cases E
  ·cases E
 | makeMap t r =>
  simp only[hop,EY,Ahd]at E
  obtain⟨u,hu,E⟩:=E
  split at E
  ·simp only[Ahe,Ahf]at E
   obtain⟨rfl,rfl⟩:=E
   exact(AaD hop hu J Z U).wp N Y
  ·cases E
 | makeSlice t n c =>
  simp only[hop,EY,Ahd]at E
  obtain⟨u,hu,E⟩:=E
  split at E
  ·simp only[Ahd,Ahe,Ahf]at E
   obtain⟨zs,hz,s,hs,b,hb,rfl,rfl⟩:=E
   exact(AaC hop hu hz hs hb J Z U).wp N Y
  ·cases E
 | fieldAddr t x f =>
  simp only[hop,EY,Ahd]at E
  obtain⟨u,hu,E⟩:=E
  split at E
  ·simp only[Ahd,Ag,Ahe,Ahf]at E
   obtain⟨fl,hf,s,hs,h1,rfl,rfl⟩:=E
   obtain⟨i,hi1,rfl⟩:=AR.1 hs
   obtain⟨h,rfl⟩:=BH U
   exact(AaK hop hu hf hi1 (AaZ h1) J Z h).wp N Y
  ·cases E
 | field t x f =>
  simp only[hop,EY,Ahd]at E
  obtain⟨u,hu,E⟩:=E
  split at E
  ·simp only[Ahd,Ag,Ahe,Ahf,Aix,AhB]at E
   obtain⟨fl,hf,s,hs,ag,hag,h1,rfl,rfl⟩:=E
   obtain⟨i,hi1,rfl⟩:=AR.1 hs
   obtain⟨h,rfl⟩:=BH U
   cases hQ
  ·cases E
 | indexAddr t x y =>
  simp only[hop,EY,Ahd]at E
  obtain⟨u,hu,E⟩:=E
  split at E
  ·simp only[Ahd,Ahe,Ahf]at E
   obtain⟨s,hs,rfl,rfl⟩:=E
   obtain⟨i,hi1,rfl⟩:=AR.1 hs
   obtain⟨h,rfl⟩:=BH U
   exact(AaJ hop hu hi1 J Z h).wp N Y
  ·simp only[Ahd,Ahe,Ahf]at E
   obtain⟨s,hs,rfl,rfl⟩:=E
   obtain⟨i,hi1,rfl⟩:=AR.1 hs
   obtain⟨h,rfl⟩:=BH U
   exact(WL hop hu hi1 J Z h).wp N Y
  ·cases E
 | index t x y =>
  simp only[hop,EY,Ahd]at E
  obtain⟨u,hu,E⟩:=E
  split at E
  ·simp only[Ahe,Ahf]at E
   obtain⟨rfl,rfl⟩:=E
   obtain⟨h,rfl⟩:=BH U
   exact(AaI hop hu J Z h).wp N Y
  ·simp only[Ahd,Ag,Ahe,Ahf,Aix,AhB]at E
   obtain⟨s,hs,ag,hag,h1,rfl,rfl⟩:=E
   obtain⟨i,hi1,rfl⟩:=AR.1 hs
   obtain⟨h,rfl⟩:=BH U
   exact(AaH hop hu hi1 hag h1 J Z h).wp N Y
  ·cases E
 | lookup t x y ok =>
  simp only[hop,EY,Ahd]at E
  obtain⟨u,hu,E⟩:=E
  split at E
  ·simp only[Ahd,Ag,Ahe,Ahf]at E
   obtain⟨zs,hz,ag,hag,hg,kt,hkt,rfl,rfl⟩:=E
   obtain⟨h,rfl⟩:=EI U
   exact(AaG hop hu hz hg hkt J Z h).wp N Y
  ·cases E
 | mapUpdate t m k x =>
  simp only[hop,EY]at E
  split at E
  ·simp only[Ahd]at E
   obtain⟨u,hu,E⟩:=E
   split at E
   ·simp only[Ahd,Ahe,Ahf]at E
    obtain⟨kt,hkt,rfl,rfl⟩:=E
    exact(SQ (.inl hop) hu hkt J Z U).wp N Y
   ·cases E
  ·cases E
 | insert t m k x =>
  simp only[hop,EY]at E
  split at E
  ·simp only[Ahd]at E
   obtain⟨u,hu,E⟩:=E
   split at E
   ·simp only[Ahd,Ahe,Ahf]at E
    obtain⟨kt,hkt,rfl,rfl⟩:=E
    exact(SQ (.inr hop) hu hkt J Z U).wp N Y
   ·cases E
  ·cases E
 | extract x j =>
  simp only[hop,EY,Ahe,Ahf]at E
  obtain⟨rfl,rfl⟩:=E
  obtain⟨h,rfl⟩:=BH U
  exact(AaL hop J Z h).wp N Y
 | _=>simp[hop,EY]at E
end
end Go.Mx
namespace Go.Mx
section
variable {P:Program} {w w' w1 w2:World} {S S' S1 S2:Nat->Prop} {ρ β ρ' β' ρ1 β1 ρ2 β2:Nat->Nat} {M M' M1 M2:Mem} {H H2:Hp} {o:Oper} {a:Act} {vs:List V} {v:V} {call:Bt} {hi:Hint} {gl:Nat->Option (List I)} {nt:Nat} {s s':St} {ds:List Deferred} {rd:Option Nat}
theorem Dl (e:Env)(n:Nat)(x:V)(m:Nat):Cf (CO e n x) m=if m=n then some x else Cf e m:=by
 induction e with
 | nil =>
  simp only[CO,Cf]
  by_cases h:m=n
  ·subst h;simp
  ·rw[Ahj h,ZL (fun e=>h e.symm)]
 | cons p r u =>
  obtain⟨k,y⟩:=p
  simp only[CO]
  cases hb:Nat.blt n k with
  | true =>
   simp only[Cf]
   by_cases h:m=n
   ·subst h;simp
   ·rw[Ahj h,ZL (fun e=>h e.symm)]
  | false =>
   cases hq:Nat.beq k n with
   | true =>
    have:=Ahy hq
    subst this
    simp only[Cf]
    by_cases h:m=k
    ·subst h;simp
    ·rw[Ahj h,ZL (fun e=>h e.symm)]
   | false =>
    simp only[Cf]
    by_cases h:m=n
    ·subst h
     rw[hq,u]
    ·cases hk:Nat.beq k m with
     | true=>rw[Ahj h]
     | false=>exact u
theorem Kk {d:Nat}:∀ {e:Env},Dy d e=true -> ∀n k off,Cf e n=some (.fa k off)->k≠d
 | [],_,n,k,off,hg=>by simp[Cf]at hg
 | (j,x)::r,h,n,k,off,hg=>by
  have u:Dy d r=true /\ ∀k off,x=.fa k off->k≠d:=by
   cases x with
   | fa k off =>
    simp only[Dy,Ahi,AhQ]at h
    refine⟨h.2,fun J E e=>?_⟩
    cases e
    rintro rfl
    simp at h
   | _=>exact⟨h,fun k off e=>by cases e⟩
  simp only[Cf]at hg
  split at hg
  ·exact u.2 k off (Aik hg)
  ·exact Kk u.1 n k off hg
structure Inv (hi:Hint)(nt:Nat)(ds:List Deferred)(w:World)(S:Nat->Prop)(ρ β:Nat->Nat)(s:St)(a:Act):Prop where
 sz:a.tmps.size=nt
 df:a.defers=ds
 ok:Ok w S ρ β s.M
 env:∀n v,Cf s.E n=some v->hi.loc n=false/\RepX w S ρ β s.M.H v (a.tmps.getD n undef) /\ ∀d off,v=.fa d off->n=d
 loc:∀n v,Cf s.L n=some v->hi.loc n=true/\RepX w S ρ β s.M.H v (a.tmps.getD n undef)
theorem NZ {x:Operand}{q:Opnd}(h:Inv hi nt ds w S ρ β s a)(W:GlOk gl w S)(E:Sv hi gl x=some q)(u:evA s q=some v):RepX w S ρ β s.M.H v (a.eval x):=by
 cases x with
 | tmp t =>
  simp only[Sv,Ahe]at E
  subst E
  split at u
  ·exact(h.loc _ _ u).2
  ·exact(h.env _ _ u).2.1
 | const c =>
  simp only[Sv,Ahd,Ahe]at E
  obtain⟨y,U,rfl⟩:=E
  simp only[evA,Ahe]at u
  subst u
  exact RepX.ofV (SH U)
 | func f =>
  simp only[Sv,Ag,Ahe]at E
  obtain⟨N,rfl⟩:=E
  simp only[evA,Ahe]at u
  subst u
  exact RepX.ofV (.m (.fn f (fun e=>by subst e;simp at N) [] #[] rfl (fun _=>undef) (by simp) (by simp)))
 | global g =>
  simp only[Sv,Ahd,Ahe]at E
  obtain⟨cs,J,rfl⟩:=E
  simp only[evA,Ahe]at u
  subst u
  exact RepX.ofV (.m (W g cs J))
theorem KA (h:Inv hi nt ds w S ρ β s a)(J:GlOk gl w S):∀ {az:List Operand} {u:List Opnd} {vs:List V},Ah (Sv hi gl) az=some u->Ah (evA s) u=some vs->All2 (RepX w S ρ β s.M.H) vs (az.map a.eval)
 | [],u,vs,h1,h2=>by
  simp only[Ah,Ahe]at h1
  subst h1
  simp only[Ah,Ahe]at h2
  subst h2
  exact .nil
 | x::az,u,vs,h1,h2=>by
  simp only[Ah,Ahd,Ahe]at h1
  obtain⟨q,U,l,hl,rfl⟩:=h1
  simp only[Ah,Ahd,Ahe]at h2
  obtain⟨v,N,W,E,rfl⟩:=h2
  exact .cons (NZ h J U N) (KA h J hl E)
variable {d:Nat}
theorem WM (h:Inv hi nt ds w S ρ β s a)(u:evA s (match hi.loc d with|true=>.l d|false=>.v d)=some v):RepX w S ρ β s.M.H v (a.tmps.getD d undef):=by
 split at u
 ·exact(h.loc _ _ u).2
 ·exact(h.env _ _ u).2.1
variable {ops:Array Oper} {g:Option (Opnd×Bool)}
theorem Mn {b:Bool}(h:Inv hi nt ds w S ρ β s a)(E:AdX hi ops o.guard=some g)(u:AG s g=some b):Region.wanted o (yielded ops a.tmps)=b:=by
 unfold Region.wanted
 cases hg:o.guard with
 | none =>
  rw[hg]at E
  simp only[AdX,Ahe]at E
  subst E
  simp only[AG,Ahe]at u
  exact u
 | some p =>
  obtain⟨j,Y⟩:=p
  rw[hg]at E
  simp only[AdX,Ahd,Ahe]at E
  obtain⟨oj,U,d,hd,rfl⟩:=E
  simp only[AG,Ahd]at u
  obtain⟨v,hv,u⟩:=u
  have W:=WM h hv
  have hb:(ops[j]?).bind (·.dst)=some d:=by rw[U];exact hd
  simp only[yielded,hb,Ahp]
  split at u
  ·rename_i x
   simp only[Ahe]at u
   have N:=CF (RepX.toV rfl W)
   have:a.tmps[d]? = some (.bool x):=by
    cases J:a.tmps[d]? with
    | none=>simp[J,undef]at N
    | some y=>simp[J]at N;rw[N]
   rw[this]
   simpa using u
  ·simp only[Ahe]at u
   have Z:a.tmps.getD d undef=undef:=by
    have:=RepX.toV rfl W
    generalize a.tmps.getD d undef=c at this
    cases this
    rfl
   have:∀x,a.tmps[d]? ≠ some (.bool x):=fun x J=>by simp[J,undef]at Z
   subst u
   cases J:a.tmps[d]? with
   | none=>rfl
   | some y=>cases y <;> first|rfl|exact absurd J (this _)
  ·cases u
variable {c:Value}
theorem RepX.step {x:V}(h:RepX w S ρ β M.H x c)(k:Stp w S ρ β M w' S' ρ' H2)(u:∀d off,x=.fa d off->β' d=β d):RepX w' S' ρ' β' H2 x c:=by
 cases x with
 | fa d off=>simp only[RepX]at h ⊢;rw[u d off rfl];exact h
 | _=>exact k.vals _ _ h
theorem Hy {a:Act}{n m:Nat}(u:n<a.tmps.size):(a.put (some n) c).tmps.getD m undef=if m=n then c else a.tmps.getD m undef:=by
 by_cases h:m=n
 ·subst h
  simp[Act.put,u]
 ·rw[Ahj h]
  simp[Act.put,Array.getElem?_setIfInBounds_ne (Air h)]
variable {q:O} {az:List Opnd}
theorem TP {D:Dst}(h:Rk nt ⟨D,q,az,g⟩=true)(u:dof q=some d):isD d D=true:=by
 simp only[Rk,Ahi]at h
 unfold dof at u
 split at u
 ·cases u;exact h.2
 ·cases u;exact h.2
 ·cases u
theorem Xz (h:Bu s q=true)(u:dof q=some d):Dy d s.L=true:=by
 unfold dof at u
 split at u
 ·cases u;exact h
 ·cases u;exact h
 ·cases u
theorem Inv.step {D:Dst}(h:Inv hi nt ds w S ρ β s a)(J:AbQ hi o.dst=D)(Y:Rk nt ⟨D,q,az,g⟩=true)(hfr:Bu s q=true)(U:Nxt w S ρ β s.M q v M' w' S' ρ' β' c) 
  (hs:FJ { s with M:=M' } D v=some s'):Inv hi nt ds w' S' ρ' β' s' (a.put o.dst c)/\s'.M=M':=by
 have hL:∀n v,Cf s.L n=some v -> ∀d off,v=.fa d off->β' d=β d:=fun n v E d off e=>U.own d fun hd=>Kk (Xz hfr hd) n d off (e ▸ E) rfl
 cases hdst:o.dst with
 | none =>
  rw[hdst]at J
  simp only[AbQ]at J
  subst J
  simp only[FJ,Ahe]at hs
  subst hs
  refine⟨⟨h.sz,h.df,U.ok,fun n v E=>?_,fun n v E=>?_⟩,rfl⟩
  ·obtain⟨N,W,h3⟩:=h.env n v E
   exact⟨N,W.step U.stp fun d off _=>U.own d fun hd=>(by have:=TP Y hd;simp[isD]at this),h3⟩
  ·obtain⟨N,W⟩:=h.loc n v E
   exact⟨N,W.step U.stp (hL n v E)⟩
 | some k =>
  rw[hdst]at J
  simp only[AbQ]at J
  have hk:k<a.tmps.size:=by
   rw[h.sz]
   simp only[Rk,Ahi]at Y
   have:=Y.1
   cases hl:hi.loc k <;> rw[hl]at J <;> subst J <;> simpa[AiA]using this
  have hdk:∀d,dof q=some d->d=k:=fun d hd=>by
   have:=TP Y hd
   cases hl:hi.loc k <;> rw[hl]at J <;> subst J <;> exact Ahy this
  have hdf:(a.put (some k) c).defers=ds:=h.df
  have hsz:(a.put (some k) c).tmps.size=nt:=by simp[Act.put,h.sz]
  cases hl:hi.loc k with
  | true =>
   rw[hl]at J
   simp only at J
   subst J
   simp only[FJ,Ahe]at hs
   subst hs
   refine⟨⟨hsz,hdf,U.ok,fun n u E=>?_,fun n u E=>?_⟩,rfl⟩
   ·obtain⟨N,W,h3⟩:=h.env n u E
    have Z:n≠k:=fun e=>by rw[e,hl]at N;cases N
    rw[Hy hk,Ahj Z]
    exact⟨N,W.step U.stp fun d off e=>U.own d fun hd=>Z (by rw[h3 d off e,hdk d hd]),h3⟩
   ·simp only[Dl]at E
    rw[Hy hk]
    by_cases e:n=k
    ·rw[Ahl e]at E ⊢
     cases E
     exact⟨by rw[e];exact hl,U.rep⟩
    ·rw[Ahj e]at E ⊢
     obtain⟨N,W⟩:=h.loc n u E
     exact⟨N,W.step U.stp (hL n u E)⟩
  | false =>
   rw[hl]at J
   simp only at J
   subst J
   simp only[FJ,Ag,Ahe]at hs
   obtain⟨hok,rfl⟩:=hs
   refine⟨⟨hsz,hdf,U.ok,fun n u E=>?_,fun n u E=>?_⟩,rfl⟩
   ·simp only[Dl]at E
    rw[Hy hk]
    by_cases e:n=k
    ·rw[Ahl e]at E ⊢
     cases E
     refine⟨by rw[e];exact hl,U.rep,fun d off e'=>?_⟩
     subst e'
     simp only[ED,Ahi]at hok
     rw[e,Ahy hok.1]
    ·rw[Ahj e]at E ⊢
     obtain⟨N,W,h3⟩:=h.env n u E
     exact⟨N,W.step U.stp fun d off e'=>U.own d fun hd=>e (by rw[h3 d off e',hdk d hd]),h3⟩
   ·obtain⟨N,W⟩:=h.loc n u E
    have Z:n≠k:=fun e=>by rw[e,hl]at N;cases N
    rw[Hy hk,Ahj Z]
    exact⟨N,W.step U.stp (hL n u E)⟩
def Bx (w:World)(β:Nat->Nat)(B:LE)(β':Nat->Nat)(B':LE):Prop:=∀d,(getB B' d).isSome->(∃q,(getB B q).isSome/\β' d=β q)\/w.heap.size<=β' d
theorem Bx.refl {B:LE}:Bx w β B β B:=fun d u=>.inl ⟨d,u,rfl⟩
theorem Bx.trans {B E u:LE}(h:Bx w β B β1 E)(hs:w.heap.size<=w1.heap.size)(k:Bx w1 β1 E β2 u):Bx w β B β2 u:=fun d N=>by
 rcases k d N with ⟨q,J,e⟩|e
 ·rw[e]
  exact h q J
 ·exact .inr (AiB hs e)
def Sq (P:Program)(hi:Hint)(gl:Nat->Option (List I))(nt:Nat)(ops:Array Oper)(i:Nat)(q:Op):Prop:=∃o,ops[i]? = some o/\TR P hi gl ops o=some q/\Rk nt q=true
theorem TK {Q:Exit->Act->World->Prop}(J:Dt P gl call):∀(l:List Nat) (qs:List Op),All2 (Sq P hi gl nt ops) l qs -> ∀(s s':St) (a:Act) (w:World) (S:Nat->Prop) (ρ β:Nat->Nat),BX call qs s=some s'->Inv hi nt ds w S ρ β s a->GlOk gl w S ->
  (∀a' w' S' ρ' β',Inv hi nt ds w' S' ρ' β' s' a'->Stp w S ρ β s.M w' S' ρ' s'.M.H->Bx w β s.M.B β' s'.M.B->Q .normal a' w')->wpOpsIn (FW rd) 0 P ops Q l a w:=by
 intro l qs hl
 induction hl with
 | nil =>
  intro s s' a w S ρ β he u hG hQ
  simp only[BX,Ahe]at he
  subst he
  exact hQ a w S ρ β u (Stp.refl _ _ _ _ _) Bx.refl
 | @cons i q l qs hq hl ih =>
  intro s s' a w S ρ β he u hG hQ
  obtain⟨o,ho,hc,W⟩:=hq
  obtain⟨g,qo,os,hg,rfl,a0⟩:=JK hc
  simp only[BX,Ei,Ahd]at he
  obtain⟨s1,⟨b,hb,E⟩,he2⟩:=he
  have Z:=Mn u hg hb
  simp only[wpOpsIn,ho,Z]
  have tail:∀ {a1:Act} {w1:World} {S1:Nat->Prop} {ρ1 β1:Nat->Nat},Inv hi nt ds w1 S1 ρ1 β1 s1 a1->Stp w S ρ β s.M w1 S1 ρ1 s1.M.H->Bx w β s.M.B β1 s1.M.B->wpOpsIn (FW rd) 0 P ops Q l a1 w1:=fun {a1 w1 S1 ρ1 β1} hI1 N hbx =>
   ih s1 s' a1 w1 S1 ρ1 β1 he2 hI1 (hG.step N) fun a' w' S' ρ' β' h1 Y h3=>hQ a' w' S' ρ' β' h1 (N.trans hbx Y) (hbx.trans N.size h3)
  cases b with
  | true =>
   simp only[Ag,Ahd]at E
   obtain⟨hfr,vs,U,⟨v,M'⟩,hev,hset⟩:=E
   simp only[if_true]
   rcases a0 with ⟨az,a0,hQ,hos⟩|⟨rfl,rfl⟩
   case inr=>simp[Ah]at U;subst U;simp[evO,Aq]at hev
   refine(Zw a0 hQ J u.ok hG (KA u hG hos U) hev fun w' S' ρ' β' c hn=>?_)
   obtain⟨h1,Y⟩:=u.step rfl W hfr hn hset
   exact tail h1 (by rw[Y];exact hn.stp) (by rw[Y];exact hn.box)
  | false =>
   simp only[AiG,if_false]
   have hn:Nxt w S ρ β s.M (.p .mv) .un s.M w S ρ β undef:=⟨u.ok,Stp.refl _ _ _ _ _,.un,fun _ _=>rfl,fun d hd=>.inl ⟨d,hd,rfl⟩⟩
   have hwf':Rk nt ⟨AbQ hi o.dst,.p .mv,[],none⟩=true:=by
    simp only[Rk,Ahi]at W ⊢
    exact⟨W.1,AhY⟩
   obtain⟨h1,Y⟩:=u.step rfl hwf' rfl hn E
   exact⟨fun _ _=>AhY,tail h1 (by rw[Y];exact Stp.refl _ _ _ _ _) (by rw[Y];exact Bx.refl)⟩
end
end Go.Mx
