/- Soundness of the machine, part 3. Nothing here speaks of a program. -/
import Derived.Test.YtjjpbhhgeddgjaaGreatDoorBb
import Derived.CallsIn
import Derived.TacticsIn
import Derived.OrdersIn
import Derived.RangeFuncRecord
import Derived.RangeFuncLeaves
import Derived.Maps.AppendAt
import Derived.Orders
set_option linter.unusedSimpArgs false
set_option linter.unusedVariables false
set_option linter.unusedSectionVars false
/- Strings over bytes; slice literals whose parts are frozen; copy. -/
namespace Go.Mx
section
variable {P : Program} {w : World} {S : Nat -> Prop} {ρ β : Nat -> Nat} {M M' : Mem} {H : Hp} {o : Oper} {a : Act} {vs : List V} {v : V} {call : Ba}
theorem La {w : World} {g n : Nat} {cur : Array Value} {ty : TypeId} {mk : Nat × Nat} (hh : w.heap[g]? = some (.cells cur ty mk)) (hn : n ≠ 0) : ∃ mk',(w.freeze ⟨g,0,none⟩ n).heap[g]? = some (.cells cur ty mk') /\ Gw w (w.freeze ⟨g,0,none⟩ n) (some g):=by
 obtain ⟨lo,hi⟩:=mk
 unfold World.freeze
 rw [AcQ hn]
 refine ⟨if lo == hi then (0,0 + n) else (min lo 0,max hi (0 + n)),?_,⟨⟨rfl,rfl,rfl,by simp,fun k _ hk=>?_⟩,fun _=>AcR _⟩⟩
 ·rw [Array.getElem?_modify,AcY rfl,hh]
  rfl
 ·have : g ≠ k:=fun e=>hk (by rw [e])
  simp [Array.getElem?_modify,this]
theorem UN {c : Go.Call} {t e : TypeId} (ho : o.op = .call c) (hb : c.callee = .builtin .unsafeString) (ht : c.argTypes[0]? = some t) (hts : c.argTypes.size = 2) (hu : P.underlying t = some (.pointer e)) (hs : Bo P e = some 1)
  (hok : Ok w S ρ β M) (hv : All2 (RepX w S ρ β M.H) vs (c.args.toList.map a.eval)) (he : Af call M (.ust e) vs = some (v,M')) :
  Outc w S ρ β M (.l (.ust e)) v M' ((execOp a.eval o).run P w):=by
 obtain ⟨it,hat⟩ : ∃ it,c.argTypes = #[t,it]:=by
  obtain ⟨l,hl⟩ : ∃ l,c.argTypes = List.toArray l:=⟨c.argTypes.toList,by simp⟩
  rw [hl] at ht hts ⊢
  match l,hts with
  | [x,y],_=>simp at ht; subst ht; exact ⟨y,rfl⟩
 match vs,he with
 | [p,n],he =>
  obtain ⟨cp,cn,hargs,h,h1⟩:=hv.inv2
  have hm:=Wp hargs
  simp only [Af] at he
  split at he
  ·rename_i k
   have hn:=BI (RepX.toV rfl h1)
   subst hn
   split at he
   ·simp only [Ab,AcZ,AcM,AcN] at he
    obtain ⟨rfl,rfl,rfl⟩:=he
    have hc : cp = .pointer none:=by have:=(RepX.toV rfl h).imm; cases this; rfl
    subst hc
    exact .val hok (RepX.ofV (.m (.s .empty [] rfl))) (Aq ho hb (fun _=>by rw [hm]; rfl) (by rw [hat]; exact Lib.run_unsafeString_none w t it o.type none))
   ·rename_i r ver
    simp only [AcL,AE] at he
    obtain ⟨row,hrow,he⟩:=he
    split at he
    ·rename_i ty esz es base
     simp only [Ab,AcP,AcZ,Adx,AcL,AcM,AcN] at he
     obtain ⟨⟨⟨⟨⟨⟨rfl,rfl⟩,hbv⟩,hve⟩,hkl⟩,hk1⟩,l,hl,H',hH',rfl,rfl⟩:=he
     obtain ⟨hrl,rfl⟩:=Bh hH'
     have hx:=RepX.toV rfl h
     cases hx with | pt _ _ _ _ ty' esz' es1 base' fz' q hrow' h2 hix hb' =>
     rw [hrow] at hrow'
     simp only [AcM,Row.cs.injEq] at hrow'
     obtain ⟨rfl,rfl,rfl,rfl,rfl⟩:=hrow'
     obtain ⟨hbl,hpos,hU,_,hns,cur,cap,mk,hh,hmk,hcs,hcap,hcm,hr⟩:=hok.rows r _ hrow
     have hmk:=hmk rfl
     have hnS:=hns rfl
     obtain ⟨b,rfl,hA⟩:=hb' hbv
     have hbe : b = ρ r:=by
      rcases hA with hA | ⟨_,hne,_⟩
      ·exact hA
      ·exact absurd hve hne
     subst hbe
     obtain ⟨g1,g2,g3⟩:=Fe hl hr
     have hm8:=JC g2
     have hll : (l.map UInt8.ofNat).length = k:=by rw [Adc]; omega
     have hne : l.map UInt8.ofNat ≠ []:=by intro e; rw [e] at hll; simp at hll; omega
     have hsh : w.shape? (ρ r) = some (e,cur.size):=by unfold World.shape?; rw [hh]
     have hcell : ∀ j x,(l.map UInt8.ofNat)[j]? = some x -> w.cell? ((⟨ρ r,0 * 1 + 0,none⟩ : Addr).add j) = some (.int .u8 x.toNat):=fun j x hj=>by
      rw [Bi,Nat.zero_mul,AdU,cell_of_row w (ρ r) j cur e _ hh]
      rw [Adi] at hj
      obtain ⟨d,hd,rfl⟩:=Ady.1 hj
      have hg : (cur.toList.take (es.length * 1))[j]? = some (.int .u8 (d : Int)):=by rw [g3]; simp [hd]
      rw [Adw] at hg
      split at hg
      ·have hd2:=g2 d (Ada hd)
       have : ((UInt8.ofNat d).toNat : Int) = (d : Int):=by simp; omega
       rw [this]
       simpa using hg
      ·cases hg
     have hcz : P.cellsOf e = 1:=by
      obtain ⟨i,hi,hi1⟩:=AA.1 hs
      simp [Program.cellsOf,hi,hi1]
     have hrun:=Lib.run_unsafeString_row (P:=P) w t it o.type e hu hcz (ρ r) cur.size hsh (l.map UInt8.ofNat) hne (by rw [hll]; omega) (by rw [hll]; unfold maxLen at hcm; omega) (by simpa using hcell)
     rw [hll] at hrun
     obtain ⟨mk2,f1,f2⟩:=La hh (n:=k) (by omega)
     have key:=Ok.setRow (w':=w.freeze ⟨ρ r,0,none⟩ k) (S':=fun b=>S b \/ b = ρ r) (g:=ρ r) (row':=.cs e 1 es base true) hok hrow f2 (.inl rfl) (fun _ h=>.inl h) (fun b h=>h)
      (fun b hb=>f2.block b (hok.lt b hb) (fun e=>hnS (by cases e; exact hb)))
      (fun ty1 esz1 es1 base1 fz1 e1=>by
       cases e1
       refine ⟨es,base,true,rfl,AcR _,AcR _,fun b ver h1 h2 hA=>?_,fun _=>⟨rfl,fun cur1 mk1 h1=>?_⟩⟩
       ·rcases hA with hA | ⟨hSb,hne,hc⟩
        ·exact .inl hA
        ·refine .inr ⟨.inl hSb,hne,fun j hj=>?_⟩
         have e1 : (w.freeze ⟨ρ r,0,none⟩ k).cell? ⟨b,j,none⟩ = w.cell? ⟨b,j,none⟩:=World.cell?_of_block (f2.block b (hok.lt b hSb) (fun e=>hnS (by cases e; exact hSb)))
         have e2 : (w.freeze ⟨ρ r,0,none⟩ k).cell? ⟨ρ r,j,none⟩ = w.cell? ⟨ρ r,j,none⟩:=by
          rw [cell_of_row _ _ j cur e _ f1,cell_of_row _ _ j cur e _ hh]
         rw [e1,e2]
         exact hc j hj
       ·rw [hh] at h1
        cases h1
        exact ⟨cur,mk2,f1,rfl⟩)
      (fun es1 fz1 e1=>by cases e1)
      (fun hto=>by
       rw [HB] at hto ⊢
       exact ⟨hbl,hpos,hU,fun _=>.inr rfl,fun e=>(by cases e),cur,cap,mk2,f1,fun e=>(by cases e),hcs,hcap,hcm,hr.mono hto⟩)
     rw [HB] at key
     exact ⟨_,.string ⟨(l.map UInt8.ofNat).toArray⟩,_,_,_,_,Aq ho hb (fun _=>by rw [hm]; rfl) (by rw [hat]; simpa using hrun),.inl rfl,key.1,key.2,RepX.ofV (.m (.s _ l (by simpa using hm8))),fun _ _=>rfl,fun d hd=>.inl ⟨d,hd,rfl⟩⟩
    ·cases he
   ·cases he
  ·cases he
end
end Go.Mx
/- Steps one after the other; slice literals whose parts are frozen. -/
namespace Go.Mx
section
variable {P : Program} {w w1 w2 : World} {S S1 S2 : Nat -> Prop} {ρ ρ1 ρ2 β β1 : Nat -> Nat} {M M1 M' : Mem} {H H2 : Hp} {o : Oper} {a : Act} {vs : List V} {v : V} {call : Ba}
theorem Stp.trans (h : Stp w S ρ β M w1 S1 ρ1 M1.H) (hb : ∀ d,(getB M1.B d).isSome -> (∃ q,(getB M.B q).isSome /\ β1 d = β q) \/ w.heap.size <= β1 d) (k : Stp w1 S1 ρ1 β1 M1 w2 S2 ρ2 H2) : Stp w S ρ β M w2 S2 ρ2 H2 where
 vals v c hv:=k.vals v c (h.vals v c hv)
 stab b hb:=k.stab b (h.stab b hb)
 heap b hb:=(k.heap b (h.stab b hb)).trans (h.heap b hb)
 keep b hlt hr hd:=by
  refine (k.keep b (Aed hlt h.size) (fun r hr' e=>?_) (fun d hd' e=>?_)).trans (h.keep b hlt hr hd)
  ·rcases h.rown r hr' with ⟨q,hq,e'⟩ | e'
   ·exact hr q hq (e.trans e')
   ·omega
  ·rcases hb d hd' with ⟨q,hq,e'⟩ | e'
   ·exact hd q hq (e.trans e')
   ·omega
 news b hb:=by
  rcases k.news b hb with hb | hb | ⟨r,hr,e⟩
  ·exact h.news b hb
  ·exact .inr (.inl (Aec h.size hb))
  ·rcases h.rown r hr with ⟨q,hq,e'⟩ | e'
   ·exact .inr (.inr ⟨q,hq,e.trans e'⟩)
   ·exact .inr (.inl (by omega))
 rown r hr:=by
  rcases k.rown r hr with ⟨q,hq,e⟩ | e
  ·rcases h.rown q hq with ⟨q',hq',e'⟩ | e'
   ·exact .inl ⟨q',hq',e.trans e'⟩
   ·exact .inr (by omega)
  ·exact .inr (Aec h.size e)
 size:=Aec h.size k.size
 os:=k.os.trans h.os
 tape:=k.tape.trans h.tape
 output:=k.output.trans h.output
 drawn:=fun hd=>Aec (h.drawn hd) (k.drawn hd)
theorem OX {R : Nat -> Prop} (hok : Ok w S ρ β M) (hcl : OI R M.H) {n : Nat} {xs : List V} {l : List I} {cs : List Value} (h1 : Ac (view n M.H) xs = some l) (h2 : ∀ x,x ∈ xs -> InN R n x) (h3 : RepL w S ρ M.H xs cs) : LI w (Sof S ρ M.H R) l cs:=by
 obtain ⟨g1,g2⟩:=optMap_get h1
 refine ⟨by rw [Adc,g1]; exact h3.1,fun j y hj=>?_⟩
 rw [Adi] at hj
 obtain ⟨z,hz,rfl⟩:=Ady.1 hj
 obtain ⟨x,hx,hf⟩:=g2 j z hz
 obtain ⟨c,hc,hr⟩:=h3.2 j x hx
 exact ⟨c,hc,.m (EN hok hcl n x c z hf (h2 x (Ada hx)) hr)⟩
theorem LI.mono (hw : ∀ b,S b -> w1.heap[b]? = w.heap[b]?) (hS : ∀ b,S b -> S1 b) {l : List I} {cs : List Value} (h : LI w S l cs) : LI w1 S1 l cs:=by
 refine ⟨h.1,fun j x hj=>?_⟩
 obtain ⟨c,hc,hr⟩:=h.2 j x hj
 rw [Adi] at hj
 obtain ⟨z,hz,rfl⟩:=Ady.1 hj
 exact ⟨c,hc,.m (hr.imm.mono hw hS)⟩
theorem LI.toL {l : List I} {cs : List Value} (h : LI w S l cs) : RepL w S ρ H (l.map .m) cs:=by
 refine ⟨h.1,fun j x hj=>?_⟩
 obtain ⟨c,hc,hr⟩:=h.2 j x hj
 rw [Adi] at hj
 obtain ⟨z,hz,rfl⟩:=Ady.1 hj
 exact ⟨c,hc,.m hr.imm⟩
theorem KJ {x : V} (h : Cn x = true) {rs : List Nat} (hr : ∀ r,r ∈ HK x -> r ∈ rs) (n : Nat) : InN (· ∈ rs) n x:=by
 cases n with
 | zero=>exact AdI
 | succ n=>cases x <;> first | exact AdI | (simp [Cn] at h; done) | exact hr _ (by simp [HK])
theorem Td {x y : V} {l : List V} (h : Bv x = true) {rs : List Nat} (hr : ∀ r,r ∈ EJ x -> r ∈ rs) (hl : An x = some l) (hy : y ∈ l) (n : Nat) : InN (· ∈ rs) n y:=by
 cases x with
 | m i =>
  cases i with
  | ag cs =>
   simp only [An,AcM] at hl
   subst hl
   obtain ⟨z,_,rfl⟩:=Adz.1 hy
   exact JM rfl n
  | _ =>
   simp only [An,AcM] at hl
   subst hl
   rw [AdV.1 hy]
   exact JM rfl n
 | ag cs =>
  simp only [An,AcM] at hl
  subst hl
  exact KJ (AcX.1 h y hy) (fun r hr'=>hr r (List.mem_flatMap.2 ⟨y,hy,hr'⟩)) n
 | tu vs=>simp [An] at hl
 | un=>simp [An] at hl
 | fa d off=>simp [An] at hl
 | _ =>
  simp only [An,AcM] at hl
  subst hl
  rw [AdV.1 hy]
  exact Fm h hr n
theorem HY {esz : Nat} : ∀ (ps : List Nat) (xs : List V) (es es' : List (List V)),Bw esz es ps xs = some es' -> ∀ y,y ∈ es'.flatten -> y ∈ es.flatten \/ ∃ x,x ∈ xs /\ ∃ l,An x = some l /\ y ∈ l
 | [],[],es,es',h,y,hy=>by simp only [Bw,AcM] at h; subst h; exact .inl hy
 | [],_ :: _,es,es',h,y,hy=>by simp [Bw] at h
 | _ :: _,[],es,es',h,y,hy=>by simp [Bw] at h
 | p :: ps,x :: xs,es,es',h,y,hy=>by
  simp only [Bw,AcL,Ab,AcZ] at h
  obtain ⟨lx,hlx,hsz,es1,hes1,h⟩:=h
  obtain ⟨_,rfl⟩:=Bh hes1
  rcases HY ps xs _ es' h y hy with hy | ⟨z,hz,l,hl,hy⟩
  ·obtain ⟨e,he,hye⟩:=List.mem_flatten.1 hy
   rcases List.mem_or_eq_of_mem_set he with he | he
   ·exact .inl (List.mem_flatten.2 ⟨e,he,hye⟩)
   ·subst he
    exact .inr ⟨x,by simp,_,hlx,hye⟩
  ·exact .inr ⟨z,by simp [hz],l,hl,hy⟩
theorem UJ {c : Value} {x : V} (h : toV c = some x) : isM x = true:=by
 unfold toV at h
 split at h <;> first | contradiction | (simp only [AcM] at h; subst h; rfl)
theorem OU {t : TypeId} {zs : List V} (h : CH P t = some zs) : ∀ x,x ∈ zs -> isM x = true:=by
 simp only [CH,AcL,Ab] at h
 obtain ⟨i,_,z,_,_,hm⟩:=h
 intro x hx
 obtain ⟨j,hj,rfl⟩:=List.getElem_of_mem hx
 obtain ⟨c,_,hf⟩:=(optMap_get hm).2 j _ (AcT hj)
 exact UJ hf
theorem Vi {t e : TypeId} {n s : Nat} {ps : Array (Nat × Operand)} {zs : List V} (ho : o.op = .buildSlice t n ps) (hu : P.underlying t = some (.slice e)) (hs : Bo P e = some s) (hlim : n * s <= 16777216) (hpos : 1 <= s) (hz : CH P e = some zs)
  (hok : Ok w S ρ β M) (hv : All2 (RepX w S ρ β M.H) vs ((ps.toList.map (·.2)).map a.eval)) (he : Af call M (.bsf s zs n (ps.toList.map (·.1))) vs = some (v,M')) :
  Outc w S ρ β M (.l (.bsf s zs n (ps.toList.map (·.1)))) v M' ((execOp a.eval o).run P w):=by
 simp only [Af,AcL,Ab,AcM,AcN] at he
 obtain ⟨es,hes,hsh,l,hl,H',hH',rfl,rfl⟩:=he
 obtain ⟨C',hrun,hR,hU,hlen⟩:=Eu (P:=P) (w:=w) (S:=S) (ρ:=ρ) (β:=β) (H:=M.H) (a:=a) hu hs hlim hpos hz hv hes
 obtain ⟨hok1,hst1,hl1,hf1⟩:=FA _ hok hH'
 have hcl:=HI hf1
 have hin : ∀ x,x ∈ es.flatten -> InN (· ∈ vs.flatMap EJ) 20 x:=fun x hx=>by
  rcases HY _ _ _ _ hes x hx with hx | ⟨y,hy,l,hl,hx⟩
  ·obtain ⟨e,he,hxe⟩:=List.mem_flatten.1 hx
   rw [(List.mem_replicate.1 he).2] at hxe
   exact JM (OU hz x hxe) 20
  ·exact Td (AcX.1 hsh y hy) (fun r hr=>List.mem_flatMap.2 ⟨y,hy,hr⟩) hl hx 20
 have hLI:=OX hok hcl (ED hl) hin hR
 obtain ⟨hok2,hst2⟩:=hok1.allocI (Gw.alloc w (.cells C' e) none) (by simp)
 have hst:=Stp.trans (M1:={ M with H:=H' }) hst1 (fun d hd=>.inl ⟨d,hd,rfl⟩) hst2
 have hUI:=HN hl hU
 have hll:=(optMap_get hl).1
 have hln : l.length <= maxLen:=by
  have : n * 1 <= n * s:=Nat.mul_le_mul_left _ hpos
  unfold maxLen; omega
 have hLI2 : LI (w.alloc (.cells C' e)) (AcJ (Sof S ρ M.H (· ∈ vs.flatMap EJ)) w) l.flatten C'.toList:=hLI.mono (fun b hb=>heap_alloc_old w _ b (hok1.lt b hb)) (fun b hb=>.inl hb)
 have hCl:=hLI2.len
 rw [hUI.len] at hCl
 have hI:=RepI.ofRow (ρ:=ρ) (H:=H') (S:=AcJ (Sof S ρ M.H (· ∈ vs.flatMap EJ)) w) (b:=w.heap.size) (cap:=l.length) (.inr rfl) (heap_alloc_new w (.cells C' e)) hUI (by rw [Ads (by omega)]; exact hLI2.toL) (AcR _) hln
 refine ⟨.value (.slice (some ⟨w.heap.size,0,none⟩) n n),_,w.alloc (.cells C' e),_,ρ,β,by simp [execOp,ho,hrun],.inl rfl,hok2,hst,RepX.ofV ?_,fun _ _=>rfl,fun d hd=>.inl ⟨d,hd,rfl⟩⟩
 rw [<- hlen,<- hll]
 exact .ls l _ hI
end
end Go.Mx
/- copy and append. -/
namespace Go.Mx
section
variable {P : Program} {w w1 w2 : World} {S S1 S2 : Nat -> Prop} {ρ ρ1 ρ2 β β1 : Nat -> Nat} {M M1 M' : Mem} {H H2 : Hp} {o : Oper} {a : Act} {vs : List V} {v : V} {call : Ba}
structure Src (P : Program) (w : World) (size m : Nat) (x : Value) (news : List Value) : Prop where
 len : Builtin.lenOf x = pure m
 get : ∀ w' : World,w'.heap = w.heap -> (Builtin.firstCells size m x).run P w' = .ok news.toArray w'
theorem Qr {w w' : World} (h : w'.heap = w.heap) (p : Addr) : w'.cell? p = w.cell? p:=World.cell?_of_block (by rw [h])
theorem Src.slice {size m cap b off : Nat} {news : List Value} (hl : news.length = m * size) (hc : ∀ (j : Nat) u,news[j]? = some u -> w.cell? ⟨b,off + j,none⟩ = some u) : Src P w size m (.slice (some ⟨b,off,none⟩) m cap) news :=
 ⟨rfl,fun w' hw=>run_firstCells_some w' size m _ m cap news hl fun j u hj=>by rw [Qr hw,Bi]; exact hc j u hj⟩
theorem Src.slice' {size m len cap b off : Nat} {news : List Value} (hl : news.length = m * size) (hlen : len = m) (hc : ∀ (j : Nat) u,news[j]? = some u -> w.cell? ⟨b,off + j,none⟩ = some u) : Src P w size m (.slice (some ⟨b,off,none⟩) len cap) news:=by
 subst hlen
 exact Src.slice hl hc
theorem Src.none {size cap : Nat} {ad : Option Addr} : Src P w size 0 (.slice ad 0 cap) [] :=
 ⟨rfl,fun w' _=>by
  cases ad with
  | none=>simp [Builtin.firstCells]
  | some p=>simp [Builtin.firstCells,loadCells,loadCellsFrom]⟩
theorem Src.string {size : Nat} (s : ByteArray) : Src P w size s.size (.string s) (Lib.strCells s) :=
 ⟨rfl,fun w' _=>Lib.run_firstCells_string w' size s⟩
section
variable {ts : Array TypeId} {ty t t1 e : TypeId} {u1 : TypeDesc} {i : TypeInfo} {z x : Value} {m : Nat} {news : List Value}
theorem Tk (h0 : ts[0]? = some t) (h1 : ts[1]? = some t1) (ht : P.underlying t = some (.slice e)) (hu1 : P.underlying t1 = some u1) (hn : (∃ e',u1 = .slice e') \/ u1 = .string) (hi : P.info? e = some i)
  (hs : Src P w i.size m x news) (hl : news.length = m * i.size) {g sLen sCap : Nat} {cur : Array Value} {T : TypeId} {mk : Nat × Nat} (hg : w.heap[g]? = some (.cells cur T mk)) (hw : Win cur.size mk) (hone : ∀ u,u ∈ news -> u.oneCell' = true) (hroom : sLen + m <= sCap) (hfit : sLen * i.size + news.length <= cur.size) :
  (Builtin.append_ ts ty #[.slice (some ⟨g,0,none⟩) sLen sCap,x]).run P w =
   .ok (.slice (some ⟨g,0,none⟩) (sLen + m) sCap) (w.setRow g (cur.toList.take (sLen * i.size) ++ news ++ cur.toList.drop (sLen * i.size + news.length)).toArray):=by
 have hf:=hs.get w rfl
 have hst:=BO P g (sLen * i.size) T mk news 0 cur w hg hw (by simpa using hfit) hone
 simp only [Nat.add_zero] at hst
 rcases hn with ⟨e',rfl⟩ | rfl <;> simp [Builtin.append_,h0,h1,run_underlying ht,run_underlying hu1,AB hi,hs.len,hroom,hf,Addr.add_lit,hst]
theorem Tl (h0 : ts[0]? = some t) (h1 : ts[1]? = some t1) (ht : P.underlying t = some (.slice e)) (hu1 : P.underlying t1 = some u1) (hn : (∃ e',u1 = .slice e') \/ u1 = .string) (hi : P.info? e = some i)
  (hs : Src P w i.size 0 x []) {ad : Option Addr} {sLen sCap : Nat} (hroom : sLen <= sCap) :
  (Builtin.append_ ts ty #[.slice ad sLen sCap,x]).run P w = .ok (.slice ad sLen sCap) w:=by
 have hf:=hs.get w rfl
 rcases hn with ⟨e',rfl⟩ | rfl <;> cases ad <;> simp [Builtin.append_,h0,h1,run_underlying ht,run_underlying hu1,AB hi,hs.len,hroom,hf,storeCells]
theorem MY (h0 : ts[0]? = some t) (h1 : ts[1]? = some t1) (ht : P.underlying t = some (.slice e)) (hu1 : P.underlying t1 = some u1) (hn : (∃ e',u1 = .slice e') \/ u1 = .string) (hi : P.info? e = some i) (hz : i.zero = some z)
  (hs : Src P w i.size m x news) {ad : Option Addr} {sLen sCap : Nat} {olds : List Value} (ho : Src P w i.size sLen (.slice ad sLen sCap) olds) (hg : sCap < sLen + m) (h63 : sLen + m <= maxLen) (hby : (sLen + m) * i.bytes <= 140737488355328) :
  (Builtin.append_ ts ty #[.slice ad sLen sCap,x]).run P w =
   .ok (.slice (some ⟨w.heap.size,0,none⟩) (sLen + m) (grownCap w (sLen + m) sCap e)) (w.drew.alloc (.cells (olds.toArray ++ news.toArray ++ Builtin.zeroCells z.cells (grownCap w (sLen + m) sCap e - (sLen + m))) e)):=by
 have hnr : ¬ (sLen + m <= sCap):=by omega
 have h63' : ¬ (9223372036854775807 < ((sLen : Int) + (m : Int))):=by unfold maxLen at h63; omega
 have hfit:=growslice_fits hg hby
 have h48 : ¬ (281474976710656 < Builtin.nextslicecap (sLen + m) sCap * i.bytes):=by omega
 have hf:=hs.get w.drew rfl
 have hfo:=ho.get w.drew rfl
 rcases hn with ⟨e',rfl⟩ | rfl <;> simp [Builtin.append_,h0,h1,run_underlying ht,run_underlying hu1,AB hi,Ju hi,Be hi hz,hs.len,hnr,h63',h48,Question.forced,hf,hfo,grownCap,Fn] <;> rw [<- Array.append_assoc,show olds.toArray ++ news.toArray = (olds ++ news).toArray by simp]
end
theorem Jo (s : ByteArray) : Lib.strCells s = (s.data.toList.map UInt8.toNat).map fun c : Nat=>Value.int .u8 (c : Int):=by
 simp [Lib.strCells]
theorem KG {x : V} {c : Value} {xs : List (List V)} (hok : Ok w S ρ β M) (hx : RepX w S ρ β M.H x c) (h : elems M.H x = some xs) (esz : Nat) (hU : Uni esz xs) : ∃ news,Src P w esz xs.length c news /\ news.length = xs.length * esz /\ RepL w S ρ M.H xs.flatten news:=by
 obtain ⟨ad,cap,esz1,cells,rfl,hu1,hr,hc⟩:=GY hok hx h
 have hl : cells.length = xs.length * esz:=by rw [hr.1,hU.len]
 by_cases hne : xs = []
 ·subst hne
  have : cells = []:=Adq (by simpa using hl)
  subst this
  exact ⟨[],Src.none,by simp,hr⟩
 ·obtain ⟨b,off,rfl,hcell,_⟩:=hc hne
  exact ⟨cells,Src.slice hl hcell,hl,hr⟩
theorem UM {l : List Nat} {c : Value} (hx : RepX w S ρ β M.H (.m (.s l)) c) (esz : Nat) (h1 : esz = 1) : ∃ news,Src P w esz (l.map fun c : Nat=>[V.m (.i .u8 (Int.ofNat c))]).length c news /\ news.length = (l.map fun c : Nat=>[V.m (.i .u8 (Int.ofNat c))]).length * esz /\
  RepL w S ρ M.H (l.map fun c : Nat=>[V.m (.i .u8 (Int.ofNat c))]).flatten news:=by
 subst h1
 obtain ⟨s,rfl,rfl⟩:=Dn (RepX.toV rfl hx)
 refine ⟨Lib.strCells s,by simpa using Src.string s,by simp [Lib.strCells_length],?_⟩
 rw [Jo]
 generalize s.data.toList.map UInt8.toNat = l
 induction l with
 | nil=>exact .nil
 | cons c l ih=>exact .cons (.m (.i .u8 _)) ih
theorem KE (z : Array Value) (n : Nat) : (Builtin.zeroCells z n).size = n * z.size:=size_zeroCells z n
theorem Lr {c : Go.Call} {t t1 e : TypeId} {u1 : TypeDesc} {esz bytes : Nat} {z : Value} {i : TypeInfo} {x : Value} {xs es0 : List (List V)} {news olds : List Value} {ad : Option Addr} {sCap : Nat} {val : V} (ho : o.op = .call c) (hb : c.callee = .builtin .append) (h0 : c.argTypes[0]? = some t) (h1 : c.argTypes[1]? = some t1) (ht : P.underlying t = some (.slice e)) (hu1 : P.underlying t1 = some u1) (hn : (∃ e',u1 = .slice e') \/ u1 = .string)
  (hi : P.info? e = some i) (hz : i.zero = some z) (hzs : z.cells.size = i.size) (hesz : i.size = esz) (hby : i.bytes = bytes) (hb1 : 1 <= bytes) (hok : Ok w S ρ β M) (hm : c.args.map a.eval = #[.slice ad es0.length sCap,x])
  (hs : Src P w esz xs.length x news) (hnl : news.length = xs.length * esz) (hnr : RepL w S ρ M.H xs.flatten news) (hos : Src P w esz es0.length (.slice ad es0.length sCap) olds) (hol : olds.length = es0.length * esz) (hor : RepL w S ρ M.H es0.flatten olds)
  (hg : sCap < es0.length + xs.length) (he : Bq M e esz bytes (es0 ++ xs) = some (val,M')) :
  Outc w S ρ β M (.l (.app e esz bytes)) val M' ((execOp a.eval o).run P w):=by
 subst hesz; subst hby
 simp only [Bq,Ab,AcP,Adx,AcM,AcN,AcX,AcZ] at he
 obtain ⟨⟨⟨hbs,hpos⟩,hall⟩,rfl,rfl⟩:=he
 rw [AcV] at hbs
 have h47 : es0.length + xs.length <= 140737488355328:=by
  have : (es0.length + xs.length) * 1 <= (es0.length + xs.length) * i.bytes:=Nat.mul_le_mul_left _ hb1
  omega
 have h63 : es0.length + xs.length <= maxLen:=by unfold maxLen; omega
 have hrun:=MY (P:=P) (w:=w) (ty:=o.type) h0 h1 ht hu1 hn hi hz hs hos hg h63 hbs
 have hU : Uni i.size (es0 ++ xs):=fun e he=>(hall e he).1
 have hcm:=grownCap_le_maxLen w _ sCap e h63
 have hge:=grownCap_ge w (es0.length + xs.length) sCap e
 have hsize : (olds.toArray ++ news.toArray ++ Builtin.zeroCells z.cells (grownCap w (es0.length + xs.length) sCap e - (es0.length + xs.length))).size = grownCap w (es0.length + xs.length) sCap e * i.size:=by
  simp only [Array.size_append,List.size_toArray,KE,hzs,hol,hnl,<- AdB]
  congr 1
  omega
 have hh:=heap_alloc_new w.drew (.cells (olds.toArray ++ news.toArray ++ Builtin.zeroCells z.cells (grownCap w (es0.length + xs.length) sCap e - (es0.length + xs.length))) e)
 refine KN (cap:=grownCap w (es0.length + xs.length) sCap e) (c:=.slice (some ⟨w.heap.size,0,none⟩) (es0.length + xs.length) (grownCap w (es0.length + xs.length) sCap e)) (w':=w.drew.alloc (.cells (olds.toArray ++ news.toArray ++ Builtin.zeroCells z.cells (grownCap w (es0.length + xs.length) sCap e - (es0.length + xs.length))) e)) hok hpos hU (Ch w _) (by simp) hh (by simpa using hge) hcm hsize ?_ (Aq ho hb (fun _=>by rw [hm]; rfl) hrun) (fun ρ' hρ=>?_)
 ·have : (olds.toArray ++ news.toArray ++ Builtin.zeroCells z.cells (grownCap w (es0.length + xs.length) sCap e - (es0.length + xs.length))).toList.take ((es0 ++ xs).length * i.size) = olds ++ news:=by
   simp only [Array.toList_append,AcV]
   rw [List.take_append_of_le_length (by simp; rw [hol,hnl,AdB]; omega),Ads (by simp; rw [hol,hnl,AdB]; omega)]
  rw [this,List.flatten_append]
  exact hor.append hnr
 ·rw [AcV]
  exact .sl M.H.length (es0.length + xs.length) i.size 0 (es0.length + xs.length) false e (es0 ++ xs) 0 false _ _ (GH _ _) (by omega) (by simp) hge hcm (fun h=>by cases h) ⟨_,rfl⟩ (fun _ _=>⟨w.heap.size,by simp,.inl hρ.symm⟩) (fun _ _ _ _=>⟨by rw [hρ],_,(0,0),by rw [hρ]; exact hh,hsize⟩)
end
end Go.Mx
/- append and copy: the operations. -/
namespace Go.Mx
section
variable {P : Program} {w : World} {S : Nat -> Prop} {ρ β : Nat -> Nat} {M M' : Mem} {H : Hp} {o : Oper} {a : Act} {vs : List V} {v : V} {call : Ba}
theorem JT {w w' : World} {row : Option Nat} (h : Gw w w' none) : Gw w w' row:=⟨⟨h.os,h.tape,h.output,h.size,fun k hk _=>h.block k hk (by simp)⟩,h.drawn⟩
theorem VZ {r ty esz : Nat} {es xs : List (List V)} {base : Nat} {cur : Array Value} {news : List Value} {cap : Nat} {mk : Nat × Nat} (hok : Ok w S ρ β M) (hrow : M.H[r]? = some (.cs ty esz es base false)) (hh : w.heap[ρ r]? = some (.cells cur ty mk)) (hw : Win cur.size mk)
  (hU : Uni esz xs) (hne : xs ≠ []) (hcap : cur.size = cap * esz) (hle : es.length + xs.length <= cap) (hcm : cap <= maxLen) (hnl : news.length = xs.length * esz) (hr : RepL w S ρ M.H es.flatten (cur.toList.take (es.length * esz))) (hn : RepL w S ρ M.H xs.flatten news) :
  Ok (w.setRow (ρ r) (cur.toList.take (es.length * esz) ++ news ++ cur.toList.drop (es.length * esz + news.length)).toArray) S ρ β { M with H:=M.H.set r (.cs ty esz (es ++ xs) base false) } /\
   Stp w S ρ β M (w.setRow (ρ r) (cur.toList.take (es.length * esz) ++ news ++ cur.toList.drop (es.length * esz + news.length)).toArray) S ρ (M.H.set r (.cs ty esz (es ++ xs) base false)):=by
 obtain ⟨hb,hpos,hU0,_,hns,_⟩:=hok.rows r _ hrow
 have hU0 : Uni esz es:=hU0
 have hnS:=hns rfl
 have hxl : 0 < xs.length:=List.length_pos_iff.2 hne
 have hmul : (es.length + xs.length) * esz <= cap * esz:=AdO _ hle
 rw [AdB] at hmul
 have hsz : (cur.toList.take (es.length * esz) ++ news ++ cur.toList.drop (es.length * esz + news.length)).toArray.size = cur.size:=by
  simp only [List.size_toArray,AcV,Adk,AdN,Adu]
  omega
 have hh':=setRow_heap w (ρ r) cur (cur.toList.take (es.length * esz) ++ news ++ cur.toList.drop (es.length * esz + news.length)).toArray ty mk hh
 have hcell : ∀ j,j < es.length * esz -> (w.setRow (ρ r) (cur.toList.take (es.length * esz) ++ news ++ cur.toList.drop (es.length * esz + news.length)).toArray).cell? ⟨ρ r,j,none⟩ = w.cell? ⟨ρ r,j,none⟩:=fun j hj=>by
  rw [cell_of_row _ _ j _ ty _ hh',cell_of_row _ _ j cur ty _ hh]
  have h1 : j < (cur.toList.take (es.length * esz) ++ news).length:=by
   simp only [AcV,Adk,Adu]; omega
  have h2 : j < (cur.toList.take (es.length * esz)).length:=by
   simp only [Adk,Adu]; omega
  rw [List.getElem?_toArray,Adb h1,Adb h2,Adw,AcY hj]
  simp
 have key:=Ok.setRow (w':=w.setRow (ρ r) (cur.toList.take (es.length * esz) ++ news ++ cur.toList.drop (es.length * esz + news.length)).toArray) (S':=S) (g:=ρ r) (row':=.cs ty esz (es ++ xs) base false) hok hrow (DK w _ _) (.inl rfl) (fun _ h=>h) (fun b h=>.inl h)
  (fun b hb=>setRow_other w _ b _ (fun e=>hnS (e ▸ hb)))
  (fun ty1 esz1 es1 base1 fz1 e=>by
   cases e
   refine ⟨es ++ xs,base,false,rfl,by simp,AcR _,fun b ver h1 h2 hA=>?_,fun e=>by simp at e; exact absurd e hne⟩
   rcases hA with hA | ⟨hSb,hv,hc⟩
   ·exact .inl hA
   ·refine .inr ⟨hSb,by rw [AcV]; omega,fun j hj=>?_⟩
    have : ver * esz <= es.length * esz:=AdO _ h1
    rw [hcell j (by omega),World.cell?_of_block (a:=⟨b,j,none⟩) (setRow_other w (ρ r) b _ (fun e=>hnS (e ▸ hSb)))]
    exact hc j hj)
  (fun es1 fz1 e=>by cases e)
  (fun hto=>by
   rw [HB] at hto ⊢
   refine ⟨by simp; omega,hpos,hU0.append hU,fun e=>(by cases e),fun _=>hnS,_,cap,mk,hh',fun _=>(by rw [hsz]; exact hw),by omega,by simp; omega,hcm,?_⟩
   have : (cur.toList.take (es.length * esz) ++ news ++ cur.toList.drop (es.length * esz + news.length)).toArray.toList.take ((es ++ xs).length * esz) = cur.toList.take (es.length * esz) ++ news:=by
    rw [List.toList_toArray,AcV,AdB,List.take_append_of_le_length (by simp only [AcV,Adk,Adu]; omega),
     Ads (by simp only [AcV,Adk,Adu]; omega)]
   rw [this,List.flatten_append]
   exact (hr.append hn).mono hto)
 rw [HB] at key
 exact key
theorem SP {r ty esz : Nat} {es xs : List (List V)} {base : Nat} {cur arr : Array Value} {news : List Value} {cap cap' : Nat} {w' : World} {mk : Nat × Nat} (hok : Ok w S ρ β M) (hrow : M.H[r]? = some (.cs ty esz es base false)) (hh : w.heap[ρ r]? = some (.cells cur ty mk))
  (hU : Uni esz xs) (hne : xs ≠ []) (hcap : cur.size = cap * esz) (hle0 : es.length <= cap) (hnl : news.length = xs.length * esz) (hr : RepL w S ρ M.H es.flatten (cur.toList.take (es.length * esz))) (hn : RepL w S ρ M.H xs.flatten news)
  (hg : Gw w w' none) (hnew : w'.heap[w.heap.size]? = some (.cells arr ty (0,0))) (hasz : arr.size = cap' * esz) (hle : es.length + xs.length <= cap') (hcm : cap' <= maxLen) (harr : arr.toList.take ((es.length + xs.length) * esz) = cur.toList.take (es.length * esz) ++ news) :
  Ok w' (fun b=>S b \/ b = ρ r) (fun k=>if k = r then w.heap.size else ρ k) β { M with H:=M.H.set r (.cs ty esz (es ++ xs) base false) } /\
   Stp w S ρ β M w' (fun b=>S b \/ b = ρ r) (fun k=>if k = r then w.heap.size else ρ k) (M.H.set r (.cs ty esz (es ++ xs) base false)):=by
 obtain ⟨hb,hpos,hU0,_,hns,_⟩:=hok.rows r _ hrow
 have hU0 : Uni esz es:=hU0
 have hnS:=hns rfl
 have hxl : 0 < xs.length:=List.length_pos_iff.2 hne
 have hrl:=(AcO.1 hrow).1
 have hρl:=hok.rlt hrl
 have hmul : es.length * esz <= cap * esz:=AdO _ hle0
 have old : ∀ b,b < w.heap.size -> w'.heap[b]? = w.heap[b]?:=fun b hb=>hg.block b hb (by simp)
 have hcell : ∀ j,j < es.length * esz -> w'.cell? ⟨w.heap.size,j,none⟩ = w.cell? ⟨ρ r,j,none⟩:=fun j hj=>by
  rw [cell_of_row _ _ j _ ty _ hnew,cell_of_row _ _ j cur ty _ hh]
  have h2 : j < (cur.toList.take (es.length * esz)).length:=by
   simp only [Adk,Adu]; omega
  have h3 : (arr.toList.take ((es.length + xs.length) * esz))[j]? = (cur.toList.take (es.length * esz) ++ news)[j]?:=by rw [harr]
  rw [Adw,AcY (by rw [AdB]; omega),Adb h2,Adw,AcY hj] at h3
  simpa using h3
 refine Ok.setRow (w':=w') (S':=fun b=>S b \/ b = ρ r) (g:=w.heap.size) (row':=.cs ty esz (es ++ xs) base false) hok hrow (JT hg) (.inr (AcR _)) (fun _ h=>.inl h) (fun b h=>h)
  (fun b hb=>old b (hok.lt b hb))
  (fun ty1 esz1 es1 base1 fz1 e=>by
   cases e
   refine ⟨es ++ xs,base,false,rfl,by simp,AcR _,fun b ver h1 h2 hA=>?_,fun e=>by simp at e; exact absurd e hne⟩
   have hm2 : ver * esz <= es.length * esz:=AdO _ h1
   rcases hA with hA | ⟨hSb,hv,hc⟩
   ·subst hA
    refine .inr ⟨.inr rfl,by rw [AcV]; omega,fun j hj=>?_⟩
    rw [hcell j (by omega)]
    exact World.cell?_of_block (a:=⟨ρ r,j,none⟩) (old _ hρl)
   ·refine .inr ⟨.inl hSb,by rw [AcV]; omega,fun j hj=>?_⟩
    rw [hcell j (by omega),World.cell?_of_block (a:=⟨b,j,none⟩) (old b (hok.lt b hSb))]
    exact hc j hj)
  (fun es1 fz1 e=>by cases e)
  (fun hto=>?_)
 have hgr : (if r = r then w.heap.size else ρ r) = w.heap.size:=AcY rfl
 refine ⟨by simp; omega,hpos,hU0.append hU,fun e=>(by cases e),fun _=>?_,arr,cap',(0,0),by simpa [hgr] using hnew,fun _=>.inl rfl,hasz,by simpa using hle,hcm,?_⟩
 ·show ¬ (S (if r = r then w.heap.size else ρ r) \/ (if r = r then w.heap.size else ρ r) = ρ r)
  rw [hgr]
  rintro (h | h)
  ·have:=hok.lt _ h; omega
  ·omega
 ·rw [AcV,harr,List.flatten_append]
  exact (hr.append hn).mono hto
theorem NR {s : V} {cs : Value} (h : RepX w S ρ β H s cs) (hs : (∃ l,s = .m (.sl l)) \/ (∃ l,s = .ls l) \/ s = .m (.nl 4) \/ ∃ r ver esz st len lim,s = .sl r ver esz st len lim) : ∃ ad n cap,cs = .slice ad n cap /\ n <= cap:=by
 rcases hs with ⟨l,rfl⟩ | ⟨l,rfl⟩ | rfl | ⟨r,ver,esz,st,len,lim,rfl⟩
 ·obtain ⟨ad,cap,rfl,hle,_⟩:=Dk (RepX.toV rfl h).imm
  exact ⟨ad,_,cap,rfl,hle⟩
 ·have h:=RepX.toV rfl h
  cases h
  exact ⟨_,_,_,rfl,AcR _⟩
 ·have:=Ea (RepX.toV rfl h)
  exact ⟨_,_,_,this,AcR _⟩
 ·have h:=RepX.toV rfl h
  cases h
  exact ⟨_,_,_,rfl,‹_›⟩
theorem MZ {c : Go.Call} {t t1 e : TypeId} {u1 : TypeDesc} {esz bytes : Nat} {z : Value} {i : TypeInfo} {x cs : Value} {xs : List (List V)} {s val : V} (ho : o.op = .call c) (hb : c.callee = .builtin .append) (h0 : c.argTypes[0]? = some t) (h1 : c.argTypes[1]? = some t1) (ht : P.underlying t = some (.slice e)) (hu1 : P.underlying t1 = some u1) (hn : (∃ e',u1 = .slice e') \/ u1 = .string)
  (hi : P.info? e = some i) (hz : i.zero = some z) (hzs : z.cells.size = i.size) (hesz : i.size = esz) (hby : i.bytes = bytes) (hpos : 1 <= esz) (hb1 : 1 <= bytes) (hok : Ok w S ρ β M) (hm : c.args.map a.eval = #[cs,x]) (h : RepX w S ρ β M.H s cs)
  (hs : Uni esz xs -> ∃ news,Src P w esz xs.length x news /\ news.length = xs.length * esz /\ RepL w S ρ M.H xs.flatten news)
  (he : Ek M e esz bytes s xs = some (val,M')) : Outc w S ρ β M (.l (.app e esz bytes)) val M' ((execOp a.eval o).run P w):=by
 unfold Ek at he
 split at he
 ·have hU : Uni esz ([] : List (List V)):=fun y hy=>by simp at hy
  obtain ⟨news,hsrc,hnl,_⟩:=hs hU
  have : news = []:=Adq (by simpa using hnl)
  subst this
  have hf : s = val /\ M = M' /\ ((∃ l,s = .m (.sl l)) \/ (∃ l,s = .ls l) \/ s = .m (.nl 4) \/ ∃ r ver esz st len lim,s = .sl r ver esz st len lim):=by
   split at he <;> first | (cases he; done) | (simp only [AcM,AcN] at he; exact ⟨he.1,he.2,by simp⟩)
  obtain ⟨rfl,rfl,hf⟩:=hf
  obtain ⟨ad,n,cap,rfl,hle⟩:=NR h hf
  subst hesz
  exact .val hok h (Aq ho hb (fun _=>by rw [hm]; rfl) (Tl h0 h1 ht hu1 hn hi hsrc hle))
 ·rename_i y ys
  generalize hxs : y :: ys = xs at he hs
  have hne : xs ≠ []:=by rw [<- hxs]; simp
  have hxl : 0 < xs.length:=List.length_pos_iff.2 hne
  have uniOf : ∀ {l : List (List V)} {q : V × Mem},Bq M e esz bytes l = some q -> Uni esz l:=fun {l q} h=>by
   simp only [Bq,Ab,AcP,AcX,AcZ] at h
   exact fun e he=>(h.1.2 e he).1
  split at he
  ·have hc:=Ea (RepX.toV rfl h)
   subst hc
   obtain ⟨news,hsrc,hnl,hnr⟩:=hs (uniOf he)
   exact Lr (es0:=[]) (olds:=[]) ho hb h0 h1 ht hu1 hn hi hz hzs hesz hby hb1 hok hm hsrc hnl hnr Src.none (by simp) .nil (by simpa using hxl) he
  ·rename_i es
   have hU:=uniOf he
   have hUx : Uni esz xs:=fun q hq=>hU q (List.mem_append_right _ hq)
   have hUe : Uni esz (AY es):=fun q hq=>hU q (List.mem_append_left _ hq)
   obtain ⟨news,hsrc,hnl,hnr⟩:=hs hUx
   obtain ⟨olds,hos,hol,hor⟩:=KG (P:=P) hok h (show elems M.H (.ls es) = some (AY es) from rfl) esz hUe
   have h':=RepX.toV rfl h
   cases h' with | ls _ ad hI =>
   rw [<- immS_len es] at hm hos
   exact Lr (es0:=AY es) ho hb h0 h1 ht hu1 hn hi hz hzs hesz hby hb1 hok hm hsrc hnl hnr hos hol hor (by omega) he
  ·rename_i r ver esz0 st len lim
   simp only [AcL,AE] at he
   obtain ⟨row,hrow,he⟩:=he
   split at he
   ·rename_i ty' esz' es base fz
    split at he
    ·simp only [Ab,AcP,Adx,AcZ] at he
     obtain ⟨⟨⟨hbv,rfl⟩,rfl⟩,he⟩:=he
     have hU:=uniOf he
     have hUx : Uni esz xs:=fun q hq=>hU q (List.mem_append_right _ hq)
     have hUe : Uni esz ((es.drop st).take len):=fun q hq=>hU q (List.mem_append_left _ hq)
     obtain ⟨news,hsrc,hnl,hnr⟩:=hs hUx
     have hel : elems M.H (.sl r ver esz st len true) = some ((es.drop st).take len):=by
      simp only [elems,AE,hrow,AcS,Nat.beq_refl,Bool.and_true,Ab,Adx,and_true]
      exact hbv
     obtain ⟨olds,hos,hol,hor⟩:=KG (P:=P) hok h hel esz hUe
     have h':=RepX.toV rfl h
     cases h' with | sl _ _ _ _ _ _ ty2 es2 base2 fz2 ad cap hrow2 g1 g2 g3 g4 g5 gn gb ga =>
     rw [hrow] at hrow2
     simp only [AcM,Row.cs.injEq] at hrow2
     obtain ⟨rfl,_,rfl,rfl,rfl⟩:=hrow2
     have hcl:=g5 rfl
     subst hcl
     have hlen : ((es.drop st).take cap).length = cap:=by rw [Adk,AdN]; omega
     rw [hlen] at hos
     exact Lr (es0:=(es.drop st).take cap) (olds:=olds) (sCap:=cap) (ad:=ad) ho hb h0 h1 ht hu1 hn hi hz hzs hesz hby hb1 hok (by rw [hlen]; exact hm) hsrc hnl hnr (by rw [hlen]; exact hos) hol hor (by omega) he
    ·simp only [Ab,AcP,Adx,AcZ,Adt,AcL,AcM,AcN,AcX] at he
     obtain ⟨⟨⟨⟨⟨⟨⟨⟨⟨rfl,rfl⟩,rfl⟩,hz0⟩,rfl⟩,rfl⟩,rfl⟩,hbs⟩,hall⟩,H',hH',rfl,rfl⟩:=he
     have hz0:=hz0.symm
     subst hz0
     obtain ⟨hrl,rfl⟩:=Bh hH'
     have hUx : Uni esz xs:=fun q hq=>(hall q hq).1
     obtain ⟨news,hsrc,hnl,hnr⟩:=hs hUx
     have h':=RepX.toV rfl h
     cases h' with | sl _ _ _ _ _ _ ty2 es2 base2 fz2 ad cap hrow2 g1 g2 g3 g4 g5 gn gb ga =>
     rw [hrow] at hrow2
     simp only [AcM,Row.cs.injEq] at hrow2
     obtain ⟨rfl,_,rfl,rfl,rfl⟩:=hrow2
     obtain ⟨rfl,cur,mk,hh,hcs⟩:=ga rfl rfl rfl rfl
     obtain ⟨hbl,_,hU0,_,hns,cur',cap',mk',hh',hmk,hcs',hcap,hcm,hr⟩:=hok.rows r _ hrow
     rw [hh] at hh'
     simp only [AcM,Obj.cells.injEq] at hh'
     obtain ⟨rfl,_,rfl⟩:=hh'
     have hmk:=hmk rfl
     have hone : ∀ u,u ∈ news -> u.oneCell' = true:=GF (by
      rw [AcX]
      intro y hy
      obtain ⟨l,hl,hyl⟩:=List.mem_flatten.1 hy
      exact (hall l hl).2 y hyl) hnr
     have hmul : cap = cap':=Nat.eq_of_mul_eq_mul_right hpos (by rw [<- hcs,hcs'])
     subst hmul
     by_cases hroom : es.length + xs.length <= cap
     ·have hm2 : (es.length + xs.length) * esz <= cap * esz:=AdO _ hroom
      rw [AdB] at hm2
      subst hesz
      have hrun:=Tk (ty:=o.type) h0 h1 ht hu1 hn hi hsrc hnl hh hmk hone hroom (by omega)
      obtain ⟨hok',hst⟩:=VZ hok hrow hh hmk hUx hne hcs hroom hcm hnl hr hnr
      refine ⟨_,.slice (some ⟨ρ r,0,none⟩) (es.length + xs.length) cap,_,_,_,_,Aq ho hb (fun _=>by rw [hm]; rfl) hrun,.inl rfl,hok',hst,RepX.ofV ?_,fun _ _=>rfl,fun d hd=>.inl ⟨d,hd,rfl⟩⟩
      refine .sl r _ _ 0 _ false e (es ++ xs) base false _ cap (by simp [hrl]) (by omega) (by simp) hroom hcm (fun h=>by cases h) ⟨_,rfl⟩ (fun _ _=>⟨ρ r,by simp,.inl rfl⟩) (fun _ _ _ _=>⟨rfl,_,mk,setRow_heap w (ρ r) cur _ e mk hh,?_⟩)
      simp only [List.size_toArray,AcV,Adk,AdN,Adu]
      omega
     ·have h47 : es.length + xs.length <= 140737488355328:=by
       have : (es.length + xs.length) * 1 <= (es.length + xs.length) * bytes:=Nat.mul_le_mul_left _ hb1
       omega
      have h63 : es.length + xs.length <= maxLen:=by unfold maxLen; omega
      have hol : (cur.toList.take (es.length * esz)).length = es.length * esz:=by
       have : es.length * esz <= cap * esz:=AdO _ hcap
       simp only [Adk,Adu]; omega
      have hos : Src P w esz es.length (.slice (some ⟨ρ r,0,none⟩) es.length cap) (cur.toList.take (es.length * esz)):=Src.slice' hol rfl fun j u hj=>by
       rw [AdU,cell_of_row w _ j cur e _ hh]
       rw [Adw] at hj
       split at hj
       ·simpa using hj
       ·cases hj
      subst hesz; subst hby
      have hrun:=MY (P:=P) (w:=w) (ty:=o.type) h0 h1 ht hu1 hn hi hz hsrc hos (by omega) h63 hbs
      have hcm':=grownCap_le_maxLen w (es.length + xs.length) cap e h63
      have hge:=grownCap_ge w (es.length + xs.length) cap e
      have hnew:=heap_alloc_new w.drew (.cells ((cur.toList.take (es.length * i.size)).toArray ++ news.toArray ++ Builtin.zeroCells z.cells (grownCap w (es.length + xs.length) cap e - (es.length + xs.length))) e)
      have hsize : ((cur.toList.take (es.length * i.size)).toArray ++ news.toArray ++ Builtin.zeroCells z.cells (grownCap w (es.length + xs.length) cap e - (es.length + xs.length))).size = grownCap w (es.length + xs.length) cap e * i.size:=by
       simp only [Array.size_append,List.size_toArray,KE,hzs,hol,hnl,<- AdB]
       congr 1
       omega
      obtain ⟨hok',hst⟩:=SP (w':=w.drew.alloc _) hok hrow hh hUx hne hcs hcap hnl hr hnr (Ch w _) hnew hsize hge hcm' (by
       simp only [Array.toList_append]
       rw [List.take_append_of_le_length (by simp only [AcV,hol,hnl,AdB]; omega),Ads (by simp only [AcV,hol,hnl,AdB]; omega)])
      refine ⟨_,_,_,_,_,_,Aq ho hb (fun _=>by rw [hm]; rfl) hrun,.inl rfl,hok',hst,RepX.ofV ?_,fun _ _=>rfl,fun d hd=>.inl ⟨d,hd,rfl⟩⟩
      exact .sl r _ _ 0 _ false e (es ++ xs) base false _ _ (by simp [hrl]) (by omega) (by simp) hge hcm' (fun h=>by cases h) ⟨_,rfl⟩ (fun _ _=>⟨w.heap.size,by simp,.inl (by simp)⟩) (fun _ _ _ _=>⟨by simp,_,(0,0),by simpa using hnew,hsize⟩)
   ·cases he
  ·cases he
theorem Pm {c : Go.Call} {t t1 e : TypeId} {u1 : TypeDesc} {esz bytes : Nat} {zs : List V} (ho : o.op = .call c) (hb : c.callee = .builtin .append) (h0 : c.argTypes[0]? = some t) (h1 : c.argTypes[1]? = some t1) (ht : P.underlying t = some (.slice e)) (hu1 : P.underlying t1 = some u1) (hn : (∃ e',u1 = .slice e') \/ u1 = .string)
  (hz : CH P e = some zs) (hs : Bo P e = some esz) (hby : Ic P e = some bytes) (hpos : 1 <= esz) (hb1 : 1 <= bytes) (hok : Ok w S ρ β M) (hv : All2 (RepX w S ρ β M.H) vs (c.args.toList.map a.eval)) (he : Af call M (.app e esz bytes) vs = some (v,M')) :
  Outc w S ρ β M (.l (.app e esz bytes)) v M' ((execOp a.eval o).run P w):=by
 obtain ⟨i,z,hi,hz0,hzs,_⟩:=BX hz
 obtain ⟨i',hi',hsz⟩:=AA.1 hs
 obtain ⟨i'',hi'',hbz⟩:=Hc.1 hby
 rw [hi] at hi' hi''
 cases hi'; cases hi''
 match vs,he with
 | [s,x],he =>
  obtain ⟨cs,cx,hargs,h,hx⟩:=hv.inv2
  have hm:=Wp hargs
  simp only [Af] at he
  split at he
  ·rename_i l
   refine MZ ho hb h0 h1 ht hu1 hn hi hz0 hzs hsz hbz hpos hb1 hok hm h (fun hU=>?_) he
   cases l with
   | nil =>
    obtain ⟨s,rfl,hl⟩:=Dn (RepX.toV rfl hx)
    have h0 : s.size = 0:=by
     have:=congrArg List.length hl
     simpa using this
    have:=Src.string (P:=P) (w:=w) (size:=esz) s
    have hc : Lib.strCells s = []:=Adq (by rw [Lib.strCells_length]; exact h0)
    rw [h0,hc] at this
    exact ⟨[],this,by simp,.nil⟩
   | cons d l =>
    have h1 : esz = 1:=by have:=hU [V.m (.i .u8 (Int.ofNat d))] (by simp); simpa using this.symm
    exact UM hx esz h1
  ·simp only [AcL] at he
   obtain ⟨xs,hxs,he⟩:=he
   exact MZ ho hb h0 h1 ht hu1 hn hi hz0 hzs hsz hbz hpos hb1 hok hm h (fun hU=>KG hok hx hxs esz hU) he
end
end Go.Mx
/- Every operation of the machine against the model: the dispatch; calls by a hypothesis. -/
namespace Go.Mx
section
variable {P : Program} {w : World} {S : Nat -> Prop} {ρ β : Nat -> Nat} {M M' : Mem} {H : Hp} {o : Oper} {a : Act} {vs : List V} {v : V} {call : Ba} {hi : Hint} {gl : Nat -> Option (List I)} {rd : Option Nat}
def GlOk (gl : Nat -> Option (List I)) (w : World) (S : Nat -> Prop) : Prop:=∀ g cs,gl g = some cs -> RepI w S (.pt cs) (.pointer (some ⟨g,0,none⟩))
theorem GlOk.step {w' : World} {S' : Nat -> Prop} {ρ' : Nat -> Nat} {H' : Hp} (h : GlOk gl w S) (k : Stp w S ρ β M w' S' ρ' H') : GlOk gl w' S':=fun g cs hg=>k.imm (h g cs hg)
def Ez (P : Program) (f : Nat) : Prop := ∃ fn, P.funcs[f]? = some fn /\ (fn.name == "runtime.NumGoroutine") = false /\ fn.body.isNone = false
def KB (w : World) (S : Nat -> Prop) (ρ β : Nat -> Nat) (M : Mem) (v : V) (H' : Hp) (e : Ending) (w' : World) : Prop :=
 ∃ c S' ρ',e = .returned c /\ Ok w' S' ρ' β ⟨M.B,H'⟩ /\ Stp w S ρ β M w' S' ρ' H' /\ RepV w' S' ρ' H' v c
def CF (P : Program) (gl : Nat -> Option (List I)) (call : Ba) : Prop:=∀ f vs H v H',call f vs H = some (v,H') ->
 (f ≠ yN -> Ez P f /\ ∀ (w : World) S ρ β B (args : Array Value),Ok w S ρ β ⟨B,H⟩ -> GlOk gl w S -> All2 (RepX w S ρ β H) vs args.toList -> Calls P f args w (KB w S ρ β ⟨B,H⟩ v H')) /\
 (f = yN -> ∃ r xs,vs = .yl r :: xs /\ ∀ (w : World) S ρ β B (args : Array Value),Ok w S ρ β ⟨B,H⟩ -> GlOk gl w S -> All2 (RepX w S ρ β H) xs args.toList -> ∃ rec : Loop,w.heap[ρ r]? = some (.loop rec) /\ args.size = rec.params.size /\
  RoundIn Fence.wide 0 P (ρ r) rec.fn ((rec.params.zip args).foldl (fun tmps (t,a)=>tmps.setIfInBounds t a) rec.tmps) rec.assign rec.body w (KB w S ρ β ⟨B,H⟩ v H'))
abbrev FW (rd : Option Nat) : Fence:={ Fence.wide with round:=rd }
theorem Im (hnd : ∀ c,o.op ≠ .defer c) : o.semAt (FW rd).round a.eval = execOp a.eval o:=by
 cases rd with
 | none=>rfl
 | some l=>exact Oper.semAt_some l _ _ hnd
theorem Ib {n f : Nat} {args : Array Value} {R : Ending -> World -> Prop} (h : Calls P f args w R) : CallsIn (FW rd) n P f args w R:=(callsIn_wide (n:=n)).2 h
structure Nxt (w : World) (S : Nat -> Prop) (ρ β : Nat -> Nat) (M : Mem) (q : O) (v : V) (M' : Mem) (w' : World) (S' : Nat -> Prop) (ρ' β' : Nat -> Nat) (c : Value) : Prop where
 ok : Ok w' S' ρ' β' M'
 stp : Stp w S ρ β M w' S' ρ' M'.H
 rep : RepX w' S' ρ' β' M'.H v c
 own : ∀ d,dof q ≠ some d -> β' d = β d
 box : ∀ d,(getB M'.B d).isSome -> (∃ q,(getB M.B q).isSome /\ β' d = β q) \/ w.heap.size <= β' d
theorem Outc.wp {q : O} {next : Act -> World -> Prop} {Q : Exit -> Act -> World -> Prop} (h : Outc w S ρ β M q v M' ((execOp a.eval o).run P w))
  (hnd : ∀ c,o.op ≠ .defer c) (hn : ∀ w' S' ρ' β' c,Nxt w S ρ β M q v M' w' S' ρ' β' c -> next (a.put o.dst c) w') : o.wpIn (FW rd) 0 P a w next Q:=by
 obtain ⟨nx,c,w',S',ρ',β',hr,hc,h1,h2,h3,h4,h5⟩:=h
 refine ⟨fun _ _=>AdI,?_⟩
 rw [Im hnd,hr]
 rcases hc with rfl | ⟨rfl,rfl⟩
 ·exact hn _ _ _ _ _ ⟨h1,h2,h3,h4,h5⟩
 ·exact hn _ _ _ _ _ ⟨h1,h2,h3,h4,h5⟩
theorem Lj {q : O} {next : Act -> World -> Prop} {Q : Exit -> Act -> World -> Prop} {f : Nat} {xs : List V} {args : Array Value} {H' : Hp} (hny : f ≠ yN) (hnd : ∀ c,o.op ≠ .defer c) (hq : dof q = none) (hcall : CF P gl call) (hok : Ok w S ρ β M) (hG : GlOk gl w S) (hc : call f xs M.H = some (v,H'))
  (hx : All2 (RepX w S ρ β M.H) xs args.toList) (hr : Ez P f -> (execOp a.eval o).run P w = .ok (.enter f args) w)
  (hn : ∀ w' S' ρ' β' c,Nxt w S ρ β M q v { M with H:=H' } w' S' ρ' β' c -> next (a.put o.dst c) w') : o.wpIn (FW rd) 0 P a w next Q:=by
 obtain ⟨hen,hcall⟩:=(hcall f xs M.H v H' hc).1 hny
 refine ⟨fun _ _=>AdI,?_⟩
 rw [Im hnd,hr hen,Oper.uponIn_enter]
 refine ⟨fun h=>by simp [Fence.wide] at h,(Ib (hcall w S ρ β M.B args hok hG hx)).mono fun e w' h=>?_⟩
 obtain ⟨c,S',ρ',rfl,h1,h2,h3⟩:=h
 exact hn w' S' ρ' β c ⟨h1,h2,RepX.ofV h3,fun _ _=>rfl,fun d hd=>.inl ⟨d,hd,rfl⟩⟩
theorem All2.append {α β : Type} {R : α -> β -> Prop} {l l' : List α} {m m' : List β} (h : All2 R l m) (k : All2 R l' m') : All2 R (l ++ l') (m ++ m'):=by
 induction h with
 | nil=>exact k
 | cons h t ih=>exact .cons h ih
theorem RepL.toAll2 {xs : List V} {cs : List Value} (h : RepL w S ρ H xs cs) : All2 (RepX w S ρ β H) xs cs :=
 All2.ofGet h.1 fun j x hj=>let ⟨c,hc,hr⟩:=h.2 j x hj; ⟨c,hc,RepX.ofV hr⟩
theorem Gz {c : Go.Call} {f : Nat} {az : Array Value} {g : Operand} (ho : o.op = .call c) (hc : c.callee = .value g) (hg : a.eval g = .func (.func f) #[] az) (hen : Ez P f) : (execOp a.eval o).run P w = .ok (.enter f (c.args.map a.eval ++ az)) w:=by
 obtain ⟨fn,h1,h2,h3⟩:=hen
 have h2 : ¬ fn.name = "runtime.NumGoroutine" := by simpa using h2
 have h3 : ¬ fn.body = none:=by rintro e; simp [e] at h3
 simp [execOp,ho,resolve,hc,Deferred.ofValue,hg,invoke,callFunc,h1,h2,h3]
theorem Ve {c : Go.Call} {f : Nat} (hny : f ≠ yN) {next : Act -> World -> Prop} {Q : Exit -> Act -> World -> Prop} (ho : o.op = .call c) (hc : c.callee = .value (.func f)) (hcall : CF P gl call) (hok : Ok w S ρ β M) (hG : GlOk gl w S)
  (hv : All2 (RepX w S ρ β M.H) vs (c.args.toList.map a.eval)) (he : Af call M (.cal f) vs = some (v,M')) (hn : ∀ w' S' ρ' β' x,Nxt w S ρ β M (.l (.cal f)) v M' w' S' ρ' β' x -> next (a.put o.dst x) w') : o.wpIn (FW rd) 0 P a w next Q:=by
 simp only [Af,AcL,AcM,AcN] at he
 obtain ⟨⟨r,H'⟩,hr,rfl,rfl⟩:=he
 exact Lj hny (fun d e=>by rw [ho] at e; cases e) rfl hcall hok hG hr (args:=c.args.map a.eval ++ #[]) (by simpa using hv) (Gz ho hc rfl) hn
theorem Vd {c : Go.Call} {g : Operand} {next : Act -> World -> Prop} {Q : Exit -> Act -> World -> Prop} (ho : o.op = .call c) (hc : c.callee = .value g) (hcall : CF P gl call) (hok : Ok w S ρ β M) (hG : GlOk gl w S)
  (hv : All2 (RepX w S ρ β M.H) vs ((g :: c.args.toList).map a.eval)) (he : Af call M .cav vs = some (v,M')) (hn : ∀ w' S' ρ' β' x,Nxt w S ρ β M (.l .cav) v M' w' S' ρ' β' x -> next (a.put o.dst x) w') : o.wpIn (FW rd) 0 P a w next Q:=by
 match vs,he with
 | x :: xs,he =>
  simp only [Adp] at hv
  generalize hg : a.eval g = cg at hv
  cases hv with | cons h t =>
  simp only [Af] at he
  split at he
  ·rename_i f cap
   simp only [AcL,AcM,AcN] at he
   obtain ⟨⟨r,H'⟩,hr,rfl,rfl⟩:=he
   obtain ⟨hny,cs,rfl,hcs⟩:=(RepX.toV rfl h).fnL
   exact Lj hny (fun d e=>by rw [ho] at e; cases e) rfl hcall hok hG hr (args:=c.args.map a.eval ++ cs) (by simpa using All2.append t (RepL.toAll2 hcs)) (Gz ho hc hg) hn
  ·rename_i f cap
   simp only [AcL,AcM,AcN] at he
   obtain ⟨⟨r,H'⟩,hr,rfl,rfl⟩:=he
   have hI:=(RepX.toV rfl h).imm
   cases hI with | fn _ hny _ cs hl ci hci hri =>
   exact Lj hny (fun d e=>by rw [ho] at e; cases e) rfl hcall hok hG hr (args:=c.args.map a.eval ++ cs) (by simpa using All2.append t (RepL.toAll2 (RepL.ofI hl ci hci hri))) (Gz ho hc hg) hn
  ·rename_i r
   simp only [AcL,AcM,AcN] at he
   obtain ⟨⟨v',H'⟩,hr,rfl,rfl⟩:=he
   obtain ⟨r',xs',hx,hcall⟩:=(hcall _ _ _ _ _ hr).2 rfl
   cases hx
   obtain ⟨rec,hrec,hsz,hrd⟩:=hcall w S ρ β M.B (c.args.map a.eval) hok hG (by simpa using t)
   have hcg : cg = .func (.yield (ρ r)) #[] #[]:=by
    have h:=RepX.toV rfl h
    cases h; rfl
   subst hcg
   refine ⟨fun _ _=>AdI,?_⟩
   have hy:=run_yield (P:=P) hrec hsz
   have hrun : (execOp a.eval o).run P w = .ok (.round (ρ r) rec.fn ((rec.params.zip (c.args.map a.eval)).foldl (fun tmps (t,a)=>tmps.setIfInBounds t a) rec.tmps) rec.assign rec.body) w:=by
    simp only [execOp,ho,resolve,hc,Deferred.ofValue,hg,invoke,Sem.run_bind,Sem.run_pure,Result.andThen_ok,Array.empty_append]
    exact hy
   rw [Im (fun d e=>by rw [ho] at e; cases e),hrun,Oper.uponIn_round]
   refine ⟨fun h=>by simp [Fence.wide] at h,RoundIn.mono (F:=FW rd) hrd fun e w' h=>?_⟩
   obtain ⟨c',S',ρ',rfl,h1,h2,h3⟩:=h
   exact hn w' S' ρ' β c' ⟨h1,h2,RepX.ofV h3,fun _ _=>rfl,fun d hd=>.inl ⟨d,hd,rfl⟩⟩
  ·cases he
theorem GD {b : Bool} {q q' : O} {l l' : List Operand} (h : VB b q l = some (q',l')) : b = true /\ q = q' /\ l = l':=by
 cases b <;> simp [VB,gd] at h
 exact ⟨rfl,h.1,h.2⟩
theorem Bs {x : OP} (h : evO call M (.p x) vs = some (v,M')) : Ai x vs = some v /\ M' = M:=by
 simp only [evO,AcL,AcM,AcN] at h
 obtain ⟨u,h,rfl,rfl⟩:=h
 exact ⟨h,rfl⟩
theorem DL {x : OR} (h : evO call M (.r x) vs = some (v,M')) : readX M x vs = some v /\ M' = M:=by
 simp only [evO,AcL,AcM,AcN] at h
 obtain ⟨u,h,rfl,rfl⟩:=h
 exact ⟨h,rfl⟩
theorem SK {x : V} (h : JK x = true) : ∃ l,x = .m (.s l):=by
 unfold JK at h
 split at h
 ·exact ⟨_,rfl⟩
 ·cases h
theorem Ki {neg : Bool} {t ty : TypeId} {x y : Operand} {q : O} {az : List Operand} (ho : o.op = .binOp (OO neg) t x y ty) (hc : Tc P neg t x y = some (q,az)) (hQ : okO q = true) (hok : Ok w S ρ β M) (hv : All2 (RepX w S ρ β M.H) vs (az.map a.eval)) (he : evO call M q vs = some (v,M')) :
  Outc w S ρ β M q v M' ((execOp a.eval o).run P w):=by
 unfold Tc at hc
 split at hc
 ·rename_i hu
  simp only [AcM,AcN] at hc
  obtain ⟨rfl,rfl⟩:=hc
  obtain ⟨h,rfl⟩:=Bs he
  exact Vc ho hu hok hv h
 ·split at hc
  ·rename_i ks hf
   simp only [AcM,AcN] at hc
   obtain ⟨rfl,rfl⟩:=hc
   obtain ⟨h,rfl⟩:=Bs he
   exact Vb ho hf hok hv h
  ·simp only [AcL] at hc
   obtain ⟨k,hk,hc⟩:=hc
   split at hc
   ·rename_i hy
    simp only [AcM,AcN] at hc
    obtain ⟨rfl,rfl⟩:=hc
    obtain ⟨h,rfl⟩:=Bs he
    exact Pk ho hk (.inl ⟨hy,rfl⟩) hok hv h
   ·split at hc
    ·rename_i hx
     simp only [AcM,AcN] at hc
     obtain ⟨rfl,rfl⟩:=hc
     obtain ⟨h,rfl⟩:=Bs he
     exact Pk ho hk (.inr ⟨hx,rfl⟩) hok hv h
    ·cases hc
theorem Oj {b : BinOp} {t ty : TypeId} {x y : Operand} {q : O} {az : List Operand} (ho : o.op = .binOp b t x y ty) (hc : Qo P b t x y = some (q,az)) (hQ : okO q = true) (hok : Ok w S ρ β M) (hv : All2 (RepX w S ρ β M.H) vs (az.map a.eval)) (he : evO call M q vs = some (v,M')) :
  Outc w S ρ β M q v M' ((execOp a.eval o).run P w):=by
 unfold Qo at hc
 split at hc
 ·simp only [AcM,AcN] at hc
  obtain ⟨rfl,rfl⟩:=hc
  obtain ⟨h,rfl⟩:=Bs he
  exact Pl ho hok hv h
 ·simp only [AcM,AcN] at hc
  obtain ⟨rfl,rfl⟩:=hc
  obtain ⟨h,rfl⟩:=Bs he
  exact Pl ho hok hv h
 ·split at hc
  ·exact Ki (neg:=false) ho hc hQ hok hv he
  ·exact Ki (neg:=true) ho hc hQ hok hv he
  ·cases hc
theorem Pn {z : Nat} {lo hi' mx : Bool} {x : V} (h : Ai (.slc z lo hi' mx) (x :: vs) = some v) : JK x = Nat.beq z 0 :=
 (Uh (Ab.1 (show gd (eqB (JK x) (Nat.beq z 0)) _ = some v from h)).1).symm
theorem Vm {t : TypeId} {x : Operand} {lo hi' mx : Option Operand} {q : O} {az : List Operand} (ho : o.op = .slice t x lo hi' mx) (hc : Ei P hi o.dst (.slice t x lo hi' mx) = some (q,az)) (hQ : okO q = true) (hok : Ok w S ρ β M) (hv : All2 (RepX w S ρ β M.H) vs (az.map a.eval)) (he : evO call M q vs = some (v,M')) :
  Outc w S ρ β M q v M' ((execOp a.eval o).run P w):=by
 simp only [Ei,AcL] at hc
 obtain ⟨u,hu,hc⟩:=hc
 split at hc
 ·simp only [AcM,AcN] at hc
  obtain ⟨rfl,rfl⟩:=hc
  obtain ⟨h,rfl⟩:=Bs he
  simp only [Adp] at hv
  cases hv with | cons h1 t1 =>
  have hs : JK _ = true:=Pn h
  obtain ⟨l,rfl⟩:=SK hs
  exact KH ho hu hok h1 t1 h
 ·simp only [AcL,Ab,AcM,AcN,Adx] at hc
  obtain ⟨s,hs,h1s,rfl,rfl⟩:=hc
  obtain ⟨h,rfl⟩:=Bs he
  simp only [Adp] at hv
  cases hv with | cons h1 t1 =>
  obtain ⟨i,hi1,hi2⟩:=AA.1 hs
  have hq : Nat.beq s 0 = JK _:=(Pn h).symm
  refine UP ho hu hi1 hi2 hok h1 (fun l hl=>?_) t1 h
  subst hl
  have : s = 0:=AcW hq
  omega
 ·simp only [AcL,AcM,AcN] at hc
  obtain ⟨s,hs,rfl,rfl⟩:=hc
  obtain ⟨h,rfl⟩:=DL he
  simp only [Adp] at hv
  cases hv with | cons h1 t1 =>
  exact Mf ho (.inl hu) hs hok h1 t1 h
 ·rename_i at'
  split at hc
  ·rename_i hu'
   simp only [AcL,AcM,AcN] at hc
   obtain ⟨s,hs,rfl,rfl⟩:=hc
   obtain ⟨h,rfl⟩:=DL he
   simp only [Adp] at hv
   cases hv with | cons h1 t1 =>
   exact Mf ho (.inr ⟨_,hu,hu'⟩) hs hok h1 t1 h
  ·cases hc
 ·cases hc
theorem Tf {c : Go.Call} {q : O} {az : List Operand} {next : Act -> World -> Prop} {Q : Exit -> Act -> World -> Prop} (ho : o.op = .call c) (hc : Ei P hi o.dst (.call c) = some (q,az)) (hQ : okO q = true) (hcall : CF P gl call) (hok : Ok w S ρ β M) (hG : GlOk gl w S)
  (hv : All2 (RepX w S ρ β M.H) vs (az.map a.eval)) (he : evO call M q vs = some (v,M')) (hn : ∀ w' S' ρ' β' x,Nxt w S ρ β M q v M' w' S' ρ' β' x -> next (a.put o.dst x) w') : o.wpIn (FW rd) 0 P a w next Q:=by
 have hnd : ∀ c,o.op ≠ .defer c:=fun d e=>by rw [ho] at e; cases e
 simp only [Ei] at hc
 split at hc
 ·rename_i f hcv
  split at hc
  ·rename_i g
   simp only [Ab,AcM,AcN] at hc
   obtain ⟨hny,rfl,rfl⟩:=hc
   exact Ve (fun e=>by subst e; simp at hny) ho hcv hcall hok hG hv he hn
  ·simp only [AcM,AcN] at hc
   obtain ⟨rfl,rfl⟩:=hc
   exact Vd ho hcv hcall hok hG hv he hn
 ·cases hc
 ·rename_i b hb
  simp only [AcL] at hc
  obtain ⟨t0,h0,u0,hu0,hc⟩:=hc
  split at hc
  ·split at hc
   ·obtain ⟨_,rfl,rfl⟩:=GD hc
    obtain ⟨h,rfl⟩:=Bs he
    exact (Pj ho hb h0 hok hv h (fun _=>hu0) (fun e=>by cases e)).wp hnd hn
   ·obtain ⟨_,rfl,rfl⟩:=GD hc
    obtain ⟨h,rfl⟩:=Bs he
    exact (Pj ho hb h0 hok hv h (fun e=>by cases e) (fun _=>⟨_,hu0⟩)).wp hnd hn
   ·obtain ⟨_,rfl,rfl⟩:=GD hc
    obtain ⟨h,rfl⟩:=DL he
    exact (RZ ho hb h0 hu0 hok hv h).wp hnd hn
   ·cases hc
  ·split at hc
   ·simp only [AcM,AcN] at hc
    obtain ⟨rfl,rfl⟩:=hc
    obtain ⟨h,rfl⟩:=Bs he
    exact (TR (mx:=false) ho hb hok hv h).wp hnd hn
   ·cases hc
  ·split at hc
   ·simp only [AcM,AcN] at hc
    obtain ⟨rfl,rfl⟩:=hc
    obtain ⟨h,rfl⟩:=Bs he
    exact (TR (mx:=true) ho hb hok hv h).wp hnd hn
   ·cases hc
  ·split at hc
   ·rename_i e
    simp only [AcL,Ab,AcP,Adx,AcZ] at hc
    obtain ⟨t1,h1,u1,hu1,zs,hz,s,hs,bt,hbt,⟨⟨hs1,hb1⟩,_⟩,hc⟩:=hc
    split at hc
    ·simp only [AcM,AcN] at hc
     obtain ⟨rfl,rfl⟩:=hc
     exact (Pm ho hb h0 h1 hu0 hu1 (.inl ⟨_,rfl⟩) hz hs hbt hs1 hb1 hok hv he).wp hnd hn
    ·split at hc
     ·simp only [AcM,AcN] at hc
      obtain ⟨rfl,rfl⟩:=hc
      exact (Pm ho hb h0 h1 hu0 hu1 (.inr rfl) hz hs hbt hs1 hb1 hok hv he).wp hnd hn
     ·cases hc
    ·cases hc
   ·cases hc
  ·split at hc
   ·rename_i e
    simp only [AcL,Ab,AcP,Adx,AcZ] at hc
    obtain ⟨s,hs,_,t1,h1,u1,hu1,hc⟩:=hc
    split at hc
    ·simp only [AcM,AcN] at hc
     obtain ⟨rfl,rfl⟩:=hc
     cases hQ
    ·cases hc
   ·cases hc
  ·split at hc
   ·rename_i e
    split at hc
    ·rename_i z hz
     simp only [Ab,AcM,AcN] at hc
     obtain ⟨_,rfl,rfl⟩:=hc
     cases hQ
    ·cases hc
   ·cases hc
  ·split at hc
   ·rename_i kt0 e
    simp only [AcL,Ab,AcZ,AcM,AcN] at hc
    obtain ⟨kt,hkt,_,rfl,rfl⟩:=hc
    exact (UU ho hb h0 hu0 hkt hok hv he).wp hnd hn
   ·cases hc
  ·split at hc
   ·obtain ⟨_,rfl,rfl⟩:=GD hc
    obtain ⟨h,rfl⟩:=Bs he
    exact (UO ho hb hok hv h).wp hnd hn
   ·cases hc
  ·split at hc
   ·rename_i e
    simp only [AcL] at hc
    obtain ⟨s,hs,hc⟩:=hc
    obtain ⟨hq,rfl,rfl⟩:=GD hc
    simp only [AcP,AcZ] at hq
    obtain ⟨⟨_,hts⟩,rfl⟩:=hq
    exact (UN ho hb h0 hts hu0 hs hok hv he).wp hnd hn
   ·cases hc
  ·cases hc
theorem MD (h : readX M .ld1 vs = some v) : ∃ r ver ix off ty esz es base fz e,vs = [.pt r ver ix off] /\ nth M.H r = some (.cs ty esz es base fz) /\ Nat.ble base ver = true /\ off < esz /\ nth es ix = some e /\ nth e off = some v:=by
 match vs,h with
 | [a],h =>
  cases a with
  | pt r ver ix off =>
   simp only [readX,AcL] at h
   obtain ⟨row,hrow,h⟩:=h
   cases row with
   | cs ty esz es base fz =>
    simp only [Ab,AcP,AcL,AdA] at h
    obtain ⟨⟨h1,h2⟩,e,he,hv⟩:=h
    exact ⟨r,ver,ix,off,ty,esz,es,base,fz,e,rfl,hrow,h1,h2,he,hv⟩
   | _=>simp at h
  | _=>simp [readX] at h
 | [],h=>simp [readX] at h
 | _ :: _ :: _,h=>simp [readX] at h
theorem MC {ag : Bool} {sz : Nat} (h : readX M (.ldb ag sz) vs = some v) : ∃ d off,vs = [.fa d off] /\ readX M (.ld ag sz) [.fa d off] = some v:=by
 match vs,h with
 | [a],h =>
  cases a with
  | fa d off=>exact ⟨d,off,rfl,h⟩
  | _=>simp [readX] at h
 | [],h=>simp [readX] at h
 | _ :: _ :: _,h=>simp [readX] at h
theorem ZD {ag : Bool} {sz : Nat} (h : readX M (.ldb ag sz) vs = some v) : readX M (.ld ag sz) vs = some v:=by
 obtain ⟨d,off,rfl,h⟩:=MC h
 exact h
theorem MB {d : Nat} {ag : Bool} {sz : Nat} (h : readX M (.ldx d ag sz) vs = some v) : ∃ a,vs = [a] /\ SL d a = false /\ readX M (.ld ag sz) [a] = some v:=by
 match vs,h with
 | [a],h =>
  simp only [readX,Ab,Adt] at h
  exact ⟨a,rfl,h.1,h.2⟩
 | [],h=>simp [readX] at h
 | _ :: _ :: _,h=>simp [readX] at h
theorem ZC {d : Nat} {ag : Bool} {sz : Nat} (h : readX M (.ldx d ag sz) vs = some v) : readX M (.ld ag sz) vs = some v:=by
 obtain ⟨a,rfl,_,h⟩:=MB h
 exact h
theorem ZB {d : Nat} {ag : Bool} {sz : Nat} {a : V} (h1 : SL d a = false) (h : readX M (.ld ag sz) [a] = some v) : readX M (.ldx d ag sz) [a] = some v:=by
 simp only [readX,Ab,Adt]
 exact ⟨h1,h⟩
theorem Jq {call : Ba} {d sz : Nat} (h : Af call M (.stb d sz) vs = some (v,M')) : ∃ a x,vs = [a,x] /\ SL d a = true /\ Af call M (.st sz) [a,x] = some (v,M'):=by
 match vs,h with
 | [a,x],h =>
  simp only [Af,Ab] at h
  exact ⟨a,x,rfl,h.1,by simp only [Af]; exact h.2⟩
 | [],h=>simp [Af] at h
 | [_],h=>simp [Af] at h
 | _ :: _ :: _ :: _,h=>simp [Af] at h
theorem YX {call : Ba} {d sz : Nat} (h : Af call M (.stb d sz) vs = some (v,M')) : Af call M (.st sz) vs = some (v,M'):=by
 obtain ⟨a,x,rfl,_,h⟩:=Jq h
 exact h
theorem Jn {call : Ba} {sz : Nat} (h : Af call M (.str sz) vs = some (v,M')) : ∃ a x,vs = [a,x] /\ Av a = true /\ Af call M (.st sz) [a,x] = some (v,M'):=by
 match vs,h with
 | [a,x],h =>
  simp only [Af,Ab] at h
  exact ⟨a,x,rfl,h.1,by simp only [Af]; exact h.2⟩
 | [],h=>simp [Af] at h
 | [_],h=>simp [Af] at h
 | _ :: _ :: _ :: _,h=>simp [Af] at h
theorem YT {call : Ba} {sz : Nat} (h : Af call M (.str sz) vs = some (v,M')) : Af call M (.st sz) vs = some (v,M'):=by
 obtain ⟨a,x,rfl,_,h⟩:=Jn h
 exact h
theorem ZE (h : readX M .ld1 vs = some v) : readX M (.ld false 1) vs = some v:=by
 obtain ⟨r,ver,ix,off,ty,esz,es,base,fz,e,rfl,hrow,h1,h2,he,hv⟩:=MD h
 have hm : off % esz = off:=Nat.mod_eq_of_lt h2
 have hd : off / esz = 0:=Nat.div_eq_of_lt h2
 have hle : Nat.ble (off + 1) esz = true:=by rw [Adx]; omega
 have htk : CM 1 (e.drop off) = some [v]:=by
  rw [AE] at hv
  have hlt:=(AcO.1 hv).1
  rw [AdY hlt,(AcO.1 hv).2]
  rfl
 simp only [readX,readA,hrow,AcS,h1,hle,Bool.true_or,Bool.and_self,gd,EU,hm,hd,Nat.add_zero,he,htk]
 rfl
theorem Vo {s : Nat} (h : Nat.ble 1 s = true) : s ≠ 0:=by rw [Adx] at h; omega
theorem TV {q : O} {az : List Operand} {next : Act -> World -> Prop} {Q : Exit -> Act -> World -> Prop} (hc : Ei P hi o.dst o.op = some (q,az)) (hQ : okO q = true) (hcall : CF P gl call) (hok : Ok w S ρ β M) (hG : GlOk gl w S)
  (hv : All2 (RepX w S ρ β M.H) vs (az.map a.eval)) (he : evO call M q vs = some (v,M')) (hn : ∀ w' S' ρ' β' x,Nxt w S ρ β M q v M' w' S' ρ' β' x -> next (a.put o.dst x) w') : o.wpIn (FW rd) 0 P a w next Q:=by
 have hnd : ∀ c,o.op ≠ .defer c:=fun d e=>by rw [e] at hc; simp [Ei] at hc
 cases hop : o.op with
 | call c=>rw [hop] at hc; exact Tf hop hc hQ hcall hok hG hv he hn
 | slice t x lo hi' mx=>rw [hop] at hc; exact (Vm hop hc hQ hok hv he).wp hnd hn
 | binOp b t x y ty=>rw [hop] at hc; exact (Oj hop hc hQ hok hv he).wp hnd hn
 | move x =>
  simp only [hop,Ei,AcM,AcN] at hc
  obtain ⟨rfl,rfl⟩:=hc
  obtain ⟨h,rfl⟩:=Bs he
  exact (TQ (.inl hop) hok rfl hv h).wp hnd hn
 | assign x =>
  simp only [hop,Ei,AcM,AcN] at hc
  obtain ⟨rfl,rfl⟩:=hc
  obtain ⟨h,rfl⟩:=Bs he
  exact (TQ (.inr hop) hok rfl hv h).wp hnd hn
 | pick c x y =>
  simp only [hop,Ei,AcM,AcN] at hc
  obtain ⟨rfl,rfl⟩:=hc
  obtain ⟨h,rfl⟩:=Bs he
  exact (RY hop hok hv h).wp hnd hn
 | alloc t =>
  simp only [hop,Ei,AcL] at hc
  obtain ⟨zs,hz,d,hd,hc⟩:=hc
  split at hc
  ·simp only [AcM,AcN] at hc
   obtain ⟨rfl,rfl⟩:=hc
   exact (Vl hop hz hok he).wp hnd hn
  ·simp only [AcL,AcM,AcN] at hc
   obtain ⟨s,hs,rfl,rfl⟩:=hc
   exact (Vk hop hz hok he).wp hnd hn
 | box t x =>
  simp only [hop,Ei,AcL] at hc
  obtain ⟨d,hd,hc⟩:=hc
  split at hc
  ·simp only [AcL,AcM,AcN] at hc
   obtain ⟨s,hs,rfl,rfl⟩:=hc
   exact (Vg hop hok hv he).wp hnd hn
  ·simp only [AcL,AcM,AcN] at hc
   obtain ⟨s,hs,rfl,rfl⟩:=hc
   exact (Vf hop hok hv he).wp hnd hn
 | build t ps =>
  simp only [hop,Ei,AcL] at hc
  obtain ⟨zs,hz,u,hu,hc⟩:=hc
  split at hc
  ·simp only [Ab,AcL,AcM,AcN] at hc
   obtain ⟨hall,pl,hpl,rfl,rfl⟩:=hc
   obtain ⟨h,rfl⟩:=Bs he
   exact (FX hop hz hu hall hpl hok hv h).wp hnd hn
  ·simp only [AcL,AcM,AcN] at hc
   obtain ⟨s,hs,rfl,rfl⟩:=hc
   obtain ⟨h,rfl⟩:=Bs he
   exact (Gt hop hz hu hs hok hv h).wp hnd hn
  ·cases hc
 | buildSlice t n ps =>
  simp only [hop,Ei,AcL] at hc
  obtain ⟨u,hu,hc⟩:=hc
  split at hc
  ·simp only [AcL,Ab,AcP,Adx] at hc
   obtain ⟨s,hs,⟨hl,h1⟩,zs,hz,d,hd,hc⟩:=hc
   split at hc
   ·simp only [AcM,AcN] at hc
    obtain ⟨rfl,rfl⟩:=hc
    obtain ⟨h,rfl⟩:=Bs he
    exact (Vh hop hu hs hl h1 hz hok hv h).wp hnd hn
   ·simp only [AcM,AcN] at hc
    obtain ⟨rfl,rfl⟩:=hc
    exact (Vi (call:=call) hop hu hs hl h1 hz hok hv he).wp hnd hn
   ·simp only [AcM,AcN] at hc
    obtain ⟨rfl,rfl⟩:=hc
    cases hQ
   ·simp only [AcM,AcN] at hc
    obtain ⟨rfl,rfl⟩:=hc
    cases hQ
  ·cases hc
 | load t x =>
  simp only [hop,Ei,AcL] at hc
  obtain ⟨ag,hag,s,hs,hc⟩:=hc
  split at hc
  ·rename_i h1
   simp only [AcP,Adt,AcZ] at h1
   obtain ⟨⟨rfl,rfl⟩,_⟩:=h1
   simp only [AcM,AcN] at hc
   obtain ⟨rfl,rfl⟩:=hc
   obtain ⟨h,rfl⟩:=DL he
   have key:=Mg hop hag hs (.inr rfl) hok hv (ZE h)
   have key : Outc _ _ _ _ _ (.r .ld1) _ _ _:=key
   exact key.wp hnd hn
  ·simp only [Ab,AdX,AcZ,AcM] at hc
   obtain ⟨h1,hc⟩:=hc
   split at hc
   ·cases hc
    obtain ⟨h,rfl⟩:=DL he
    have key:=Mg hop hag hs h1 hok hv (ZD h)
    have key : Outc _ _ _ _ _ (.r (.ldb ag s)) _ _ _:=key
    exact key.wp hnd hn
   ·split at hc
    ·cases hc
     obtain ⟨h,rfl⟩:=DL he
     have key:=Mg hop hag hs h1 hok hv (ZC h)
     have key : Outc _ _ _ _ _ (.r (.ldx ((o.dst.map hi.bs).getD 0 - 100) ag s)) _ _ _:=key
     exact key.wp hnd hn
    ·cases hc
     obtain ⟨h,rfl⟩:=DL he
     exact (Mg hop hag hs h1 hok hv h).wp hnd hn
 | store t x y =>
  simp only [hop,Ei] at hc
  split at hc
  ·simp only [AcL] at hc
   obtain ⟨s,hs,hc⟩:=hc
   split at hc
   ·rename_i d9 _
    cases hc
    have key:=Ph hop hs hok hv (YX he)
    have key : Outc _ _ _ _ _ (.l (.stb d9 s)) _ _ _:=key
    exact key.wp hnd hn
   ·split at hc
    ·cases hc
     have key:=Ph hop hs hok hv (YT he)
     have key : Outc _ _ _ _ _ (.l (.str s)) _ _ _:=key
     exact key.wp hnd hn
    ·cases hc
     exact (Ph hop hs hok hv he).wp hnd hn
  ·cases hc
 | nilCheck x =>
  simp only [hop,Ei,AcM,AcN] at hc
  obtain ⟨rfl,rfl⟩:=hc
  obtain ⟨h,rfl⟩:=Bs he
  exact (UQ hop hok hv h).wp hnd hn
 | unOp u t x =>
  simp only [hop,Ei,AcM,AcN] at hc
  obtain ⟨rfl,rfl⟩:=hc
  obtain ⟨h,rfl⟩:=Bs he
  exact (YY hop hok hv h).wp hnd hn
 | convert src d x =>
  simp only [hop,Ei,AcL] at hc
  obtain ⟨su,hsu,du,hdu,hc⟩:=hc
  split at hc
  ·simp only [AcM,AcN] at hc
   obtain ⟨rfl,rfl⟩:=hc
   obtain ⟨h,rfl⟩:=Bs he
   exact (YZ hop ⟨_,hsu⟩ hdu hok hv h).wp hnd hn
  ·simp only [AcM,AcN] at hc
   obtain ⟨rfl,rfl⟩:=hc
   obtain ⟨h,rfl⟩:=Bs he
   cases hQ
  ·split at hc
   ·split at hc
    ·simp only [AcM,AcN] at hc
     obtain ⟨rfl,rfl⟩:=hc
     cases hQ
    ·simp only [AcM,AcN] at hc
     obtain ⟨rfl,rfl⟩:=hc
     obtain ⟨h,rfl⟩:=Bs he
     cases hQ
   ·cases hc
  ·split at hc
   ·simp only [AcM,AcN] at hc
    obtain ⟨rfl,rfl⟩:=hc
    obtain ⟨h,rfl⟩:=DL he
    exact (Vj hop hsu (by assumption) hdu hok hv h).wp hnd hn
   ·cases hc
  ·split at hc
   ·simp only [Ab,AcZ,AcM,AcN] at hc
    obtain ⟨hsd,rfl,rfl⟩:=hc
    cases hQ
   ·cases hc
  ·cases hc
 | makeFunc fn first cap =>
  simp only [hop,Ei] at hc
  split at hc
  ·split at hc
   ·simp only [Ab,AcM,AcN] at hc
    obtain ⟨hny,rfl,rfl⟩:=hc
    obtain ⟨h,rfl⟩:=Bs he
    exact (UT (fun e=>by subst e; simp at hny) hop (Array.eq_empty_of_size_eq_zero (by assumption)) hok hv h).wp hnd hn
   ·cases hc
  ·cases hc
 | makeMap t r =>
  simp only [hop,Ei,AcL] at hc
  obtain ⟨u,hu,hc⟩:=hc
  split at hc
  ·simp only [AcM,AcN] at hc
   obtain ⟨rfl,rfl⟩:=hc
   exact (US hop hu hok hv he).wp hnd hn
  ·cases hc
 | makeSlice t n c =>
  simp only [hop,Ei,AcL] at hc
  obtain ⟨u,hu,hc⟩:=hc
  split at hc
  ·simp only [AcL,AcM,AcN] at hc
   obtain ⟨zs,hz,s,hs,b,hb,rfl,rfl⟩:=hc
   exact (UR hop hu hz hs hb hok hv he).wp hnd hn
  ·cases hc
 | fieldAddr t x f =>
  simp only [hop,Ei,AcL] at hc
  obtain ⟨u,hu,hc⟩:=hc
  split at hc
  ·simp only [AcL,Ab,AcM,AcN] at hc
   obtain ⟨fl,hf,s,hs,h1,rfl,rfl⟩:=hc
   obtain ⟨i,hi1,rfl⟩:=AA.1 hs
   obtain ⟨h,rfl⟩:=Bs he
   exact (UZ hop hu hf hi1 (Vo h1) hok hv h).wp hnd hn
  ·cases hc
 | field t x f =>
  simp only [hop,Ei,AcL] at hc
  obtain ⟨u,hu,hc⟩:=hc
  split at hc
  ·simp only [AcL,Ab,AcM,AcN,AdX,AcZ] at hc
   obtain ⟨fl,hf,s,hs,ag,hag,h1,rfl,rfl⟩:=hc
   obtain ⟨i,hi1,rfl⟩:=AA.1 hs
   obtain ⟨h,rfl⟩:=Bs he
   cases hQ
  ·cases hc
 | indexAddr t x y =>
  simp only [hop,Ei,AcL] at hc
  obtain ⟨u,hu,hc⟩:=hc
  split at hc
  ·simp only [AcL,AcM,AcN] at hc
   obtain ⟨s,hs,rfl,rfl⟩:=hc
   obtain ⟨i,hi1,rfl⟩:=AA.1 hs
   obtain ⟨h,rfl⟩:=Bs he
   exact (UY hop hu hi1 hok hv h).wp hnd hn
  ·simp only [AcL,AcM,AcN] at hc
   obtain ⟨s,hs,rfl,rfl⟩:=hc
   obtain ⟨i,hi1,rfl⟩:=AA.1 hs
   obtain ⟨h,rfl⟩:=Bs he
   exact (Sa hop hu hi1 hok hv h).wp hnd hn
  ·cases hc
 | index t x y =>
  simp only [hop,Ei,AcL] at hc
  obtain ⟨u,hu,hc⟩:=hc
  split at hc
  ·simp only [AcM,AcN] at hc
   obtain ⟨rfl,rfl⟩:=hc
   obtain ⟨h,rfl⟩:=Bs he
   exact (UX hop hu hok hv h).wp hnd hn
  ·simp only [AcL,Ab,AcM,AcN,AdX,AcZ] at hc
   obtain ⟨s,hs,ag,hag,h1,rfl,rfl⟩:=hc
   obtain ⟨i,hi1,rfl⟩:=AA.1 hs
   obtain ⟨h,rfl⟩:=Bs he
   exact (UW hop hu hi1 hag h1 hok hv h).wp hnd hn
  ·cases hc
 | lookup t x y ok =>
  simp only [hop,Ei,AcL] at hc
  obtain ⟨u,hu,hc⟩:=hc
  split at hc
  ·simp only [AcL,Ab,AcM,AcN] at hc
   obtain ⟨zs,hz,ag,hag,hg,kt,hkt,rfl,rfl⟩:=hc
   obtain ⟨h,rfl⟩:=DL he
   exact (UV hop hu hz hg hkt hok hv h).wp hnd hn
  ·cases hc
 | mapUpdate t m k x =>
  simp only [hop,Ei] at hc
  split at hc
  ·simp only [AcL] at hc
   obtain ⟨u,hu,hc⟩:=hc
   split at hc
   ·simp only [AcL,AcM,AcN] at hc
    obtain ⟨kt,hkt,rfl,rfl⟩:=hc
    exact (Pi (.inl hop) hu hkt hok hv he).wp hnd hn
   ·cases hc
  ·cases hc
 | insert t m k x =>
  simp only [hop,Ei] at hc
  split at hc
  ·simp only [AcL] at hc
   obtain ⟨u,hu,hc⟩:=hc
   split at hc
   ·simp only [AcL,AcM,AcN] at hc
    obtain ⟨kt,hkt,rfl,rfl⟩:=hc
    exact (Pi (.inr hop) hu hkt hok hv he).wp hnd hn
   ·cases hc
  ·cases hc
 | extract x j =>
  simp only [hop,Ei,AcM,AcN] at hc
  obtain ⟨rfl,rfl⟩:=hc
  obtain ⟨h,rfl⟩:=Bs he
  exact (Va hop hok hv h).wp hnd hn
 | _=>simp [hop,Ei] at hc
end
end Go.Mx
/- The state of the machine against a frame's slots; a list of operations. -/
namespace Go.Mx
section
variable {P : Program} {w w' w1 w2 : World} {S S' S1 S2 : Nat -> Prop} {ρ β ρ' β' ρ1 β1 ρ2 β2 : Nat -> Nat} {M M' M1 M2 : Mem} {H H2 : Hp} {o : Oper} {a : Act} {vs : List V} {v : V} {call : Ba} {hi : Hint} {gl : Nat -> Option (List I)} {nt : Nat} {s s' : St} {ds : List Deferred} {rd : Option Nat}
theorem Cy (e : Env) (n : Nat) (x : V) (m : Nat) : BJ (BG e n x) m = if m = n then some x else BJ e m:=by
 induction e with
 | nil =>
  simp only [BG,BJ]
  by_cases h : m = n
  ·subst h; simp
  ·rw [AcQ h,Um (fun e=>h e.symm)]
 | cons p r ih =>
  obtain ⟨k,y⟩:=p
  simp only [BG]
  cases hb : Nat.blt n k with
  | true =>
   simp only [BJ]
   by_cases h : m = n
   ·subst h; simp
   ·rw [AcQ h,Um (fun e=>h e.symm)]
  | false =>
   cases hq : Nat.beq k n with
   | true =>
    have:=AcW hq
    subst this
    simp only [BJ]
    by_cases h : m = k
    ·subst h; simp
    ·rw [AcQ h,Um (fun e=>h e.symm)]
   | false =>
    simp only [BJ]
    by_cases h : m = n
    ·subst h
     rw [hq,ih]
    ·cases hk : Nat.beq k m with
     | true=>rw [AcQ h]
     | false=>exact ih
theorem Ir {d : Nat} : ∀ {e : Env},BB d e = true -> ∀ n k off,BJ e n = some (.fa k off) -> k ≠ d
 | [],_,n,k,off,hg=>by simp [BJ] at hg
 | (j,x) :: r,h,n,k,off,hg=>by
  have hr : BB d r = true /\ ∀ k off,x = .fa k off -> k ≠ d:=by
   cases x with
   | fa k off =>
    simp only [BB,AcP,Adt] at h
    refine ⟨h.2,fun k' off' e=>?_⟩
    cases e
    rintro rfl
    simp at h
   | _=>exact ⟨h,fun k off e=>by cases e⟩
  simp only [BJ] at hg
  split at hg
  ·exact hr.2 k off (AdL hg)
  ·exact Ir hr.1 n k off hg
structure Inv (hi : Hint) (nt : Nat) (ds : List Deferred) (w : World) (S : Nat -> Prop) (ρ β : Nat -> Nat) (s : St) (a : Act) : Prop where
 sz : a.tmps.size = nt
 df : a.defers = ds
 ok : Ok w S ρ β s.M
 env : ∀ n v,BJ s.E n = some v -> hi.loc n = false /\ RepX w S ρ β s.M.H v (a.tmps.getD n undef) /\ ∀ d off,v = .fa d off -> n = d
 loc : ∀ n v,BJ s.L n = some v -> hi.loc n = true /\ RepX w S ρ β s.M.H v (a.tmps.getD n undef)
theorem Lg {x : Operand} {q : Opnd} (h : Inv hi nt ds w S ρ β s a) (hG : GlOk gl w S) (hc : OQ hi gl x = some q) (he : evA s q = some v) : RepX w S ρ β s.M.H v (a.eval x):=by
 cases x with
 | tmp t =>
  simp only [OQ,AcM] at hc
  subst hc
  split at he
  ·exact (h.loc _ _ he).2
  ·exact (h.env _ _ he).2.1
 | const c =>
  simp only [OQ,AcL,AcM] at hc
  obtain ⟨y,hy,rfl⟩:=hc
  simp only [evA,AcM] at he
  subst he
  exact RepX.ofV (Pa hy)
 | func f =>
  simp only [OQ,Ab,AcM] at hc
  obtain ⟨hny,rfl⟩:=hc
  simp only [evA,AcM] at he
  subst he
  exact RepX.ofV (.m (.fn f (fun e=>by subst e; simp at hny) [] #[] rfl (fun _=>undef) (by simp) (by simp)))
 | global g =>
  simp only [OQ,AcL,AcM] at hc
  obtain ⟨cs,hcs,rfl⟩:=hc
  simp only [evA,AcM] at he
  subst he
  exact RepX.ofV (.m (hG g cs hcs))
theorem IE (h : Inv hi nt ds w S ρ β s a) (hG : GlOk gl w S) : ∀ {az : List Operand} {qs : List Opnd} {vs : List V},Ac (OQ hi gl) az = some qs -> Ac (evA s) qs = some vs -> All2 (RepX w S ρ β s.M.H) vs (az.map a.eval)
 | [],qs,vs,h1,h2=>by
  simp only [Ac,AcM] at h1
  subst h1
  simp only [Ac,AcM] at h2
  subst h2
  exact .nil
 | x :: az,qs,vs,h1,h2=>by
  simp only [Ac,AcL,AcM] at h1
  obtain ⟨q,hq,l,hl,rfl⟩:=h1
  simp only [Ac,AcL,AcM] at h2
  obtain ⟨v,hv,l',hl',rfl⟩:=h2
  exact .cons (Lg h hG hq hv) (IE h hG hl hl')
theorem Sb {d : Nat} (h : Inv hi nt ds w S ρ β s a) (he : evA s (match hi.loc d with | true=>.l d | false=>.v d) = some v) : RepX w S ρ β s.M.H v (a.tmps.getD d undef):=by
 split at he
 ·exact (h.loc _ _ he).2
 ·exact (h.env _ _ he).2.1
theorem JR {ops : Array Oper} {g : Option (Opnd × Bool)} {b : Bool} (h : Inv hi nt ds w S ρ β s a) (hc : YE hi ops o.guard = some g) (he : Ao s g = some b) : Region.wanted o (yielded ops a.tmps) = b:=by
 unfold Region.wanted
 cases hg : o.guard with
 | none =>
  rw [hg] at hc
  simp only [YE,AcM] at hc
  subst hc
  simp only [Ao,AcM] at he
  exact he
 | some p =>
  obtain ⟨j,want⟩:=p
  rw [hg] at hc
  simp only [YE,AcL,AcM] at hc
  obtain ⟨oj,hoj,d,hd,rfl⟩:=hc
  simp only [Ao,AcL] at he
  obtain ⟨v,hv,he⟩:=he
  have hr:=Sb h hv
  have hb : (ops[j]?).bind (·.dst) = some d:=by rw [hoj]; exact hd
  simp only [yielded,hb,AcS]
  split at he
  ·rename_i x
   simp only [AcM] at he
   have hx:=BY (RepX.toV rfl hr)
   have : a.tmps[d]? = some (.bool x):=by
    cases ht : a.tmps[d]? with
    | none=>simp [ht,undef] at hx
    | some y=>simp [ht] at hx; rw [hx]
   rw [this]
   simpa using he
  ·simp only [AcM] at he
   have hu : a.tmps.getD d undef = undef:=by
    have:=RepX.toV rfl hr
    generalize a.tmps.getD d undef = c at this
    cases this
    rfl
   have : ∀ x,a.tmps[d]? ≠ some (.bool x):=fun x ht=>by simp [ht,undef] at hu
   subst he
   cases ht : a.tmps[d]? with
   | none=>rfl
   | some y=>cases y <;> first | rfl | exact absurd ht (this _)
  ·cases he
theorem RepX.step {x : V} {c : Value} (h : RepX w S ρ β M.H x c) (k : Stp w S ρ β M w' S' ρ' H2) (hb : ∀ d off,x = .fa d off -> β' d = β d) : RepX w' S' ρ' β' H2 x c:=by
 cases x with
 | fa d off=>simp only [RepX] at h ⊢; rw [hb d off rfl]; exact h
 | _=>exact k.vals _ _ h
theorem Gg {a : Act} {n m : Nat} {c : Value} (hn : n < a.tmps.size) : (a.put (some n) c).tmps.getD m undef = if m = n then c else a.tmps.getD m undef:=by
 by_cases h : m = n
 ·subst h
  simp [Act.put,hn]
 ·rw [AcQ h]
  simp [Act.put,Array.getElem?_setIfInBounds_ne (AdQ h)]
theorem Ql {q : O} {D : Dst} {az : List Opnd} {g : Option (Opnd × Bool)} (h : NL nt ⟨D,q,az,g⟩ = true) {d : Nat} (hd : dof q = some d) : isD d D = true:=by
 simp only [NL,AcP] at h
 unfold dof at hd
 split at hd
 ·cases hd; exact h.2
 ·cases hd; exact h.2
 ·cases hd
theorem SR {q : O} {d : Nat} (h : AN s q = true) (hd : dof q = some d) : BB d s.L = true:=by
 unfold dof at hd
 split at hd
 ·cases hd; exact h
 ·cases hd; exact h
 ·cases hd
theorem Inv.step {q : O} {D : Dst} {az : List Opnd} {g : Option (Opnd × Bool)} {c : Value} (h : Inv hi nt ds w S ρ β s a) (hD : Wi hi o.dst = D) (hwf : NL nt ⟨D,q,az,g⟩ = true) (hfr : AN s q = true) (hn : Nxt w S ρ β s.M q v M' w' S' ρ' β' c)
  (hs : Cu { s with M:=M' } D v = some s') : Inv hi nt ds w' S' ρ' β' s' (a.put o.dst c) /\ s'.M = M':=by
 have hL : ∀ n v,BJ s.L n = some v -> ∀ d off,v = .fa d off -> β' d = β d:=fun n v hg d off e=>hn.own d fun hd=>Ir (SR hfr hd) n d off (e ▸ hg) rfl
 cases hdst : o.dst with
 | none =>
  rw [hdst] at hD
  simp only [Wi] at hD
  subst hD
  simp only [Cu,AcM] at hs
  subst hs
  refine ⟨⟨h.sz,h.df,hn.ok,fun n v hg=>?_,fun n v hg=>?_⟩,rfl⟩
  ·obtain ⟨h1,h2,h3⟩:=h.env n v hg
   exact ⟨h1,h2.step hn.stp fun d off _=>hn.own d fun hd=>(by have:=Ql hwf hd; simp [isD] at this),h3⟩
  ·obtain ⟨h1,h2⟩:=h.loc n v hg
   exact ⟨h1,h2.step hn.stp (hL n v hg)⟩
 | some k =>
  rw [hdst] at hD
  simp only [Wi] at hD
  have hk : k < a.tmps.size:=by
   rw [h.sz]
   simp only [NL,AcP] at hwf
   have:=hwf.1
   cases hl : hi.loc k <;> rw [hl] at hD <;> subst hD <;> simpa [AdA] using this
  have hdk : ∀ d,dof q = some d -> d = k:=fun d hd=>by
   have:=Ql hwf hd
   cases hl : hi.loc k <;> rw [hl] at hD <;> subst hD <;> exact AcW this
  have hdf : (a.put (some k) c).defers = ds:=h.df
  have hsz : (a.put (some k) c).tmps.size = nt:=by simp [Act.put,h.sz]
  cases hl : hi.loc k with
  | true =>
   rw [hl] at hD
   simp only at hD
   subst hD
   simp only [Cu,AcM] at hs
   subst hs
   refine ⟨⟨hsz,hdf,hn.ok,fun n u hg=>?_,fun n u hg=>?_⟩,rfl⟩
   ·obtain ⟨h1,h2,h3⟩:=h.env n u hg
    have hne : n ≠ k:=fun e=>by rw [e,hl] at h1; cases h1
    rw [Gg hk,AcQ hne]
    exact ⟨h1,h2.step hn.stp fun d off e=>hn.own d fun hd=>hne (by rw [h3 d off e,hdk d hd]),h3⟩
   ·simp only [Cy] at hg
    rw [Gg hk]
    by_cases e : n = k
    ·rw [AcY e] at hg ⊢
     cases hg
     exact ⟨by rw [e]; exact hl,hn.rep⟩
    ·rw [AcQ e] at hg ⊢
     obtain ⟨h1,h2⟩:=h.loc n u hg
     exact ⟨h1,h2.step hn.stp (hL n u hg)⟩
  | false =>
   rw [hl] at hD
   simp only at hD
   subst hD
   simp only [Cu,Ab,AcM] at hs
   obtain ⟨hok,rfl⟩:=hs
   refine ⟨⟨hsz,hdf,hn.ok,fun n u hg=>?_,fun n u hg=>?_⟩,rfl⟩
   ·simp only [Cy] at hg
    rw [Gg hk]
    by_cases e : n = k
    ·rw [AcY e] at hg ⊢
     cases hg
     refine ⟨by rw [e]; exact hl,hn.rep,fun d off e'=>?_⟩
     subst e'
     simp only [DJ,AcP] at hok
     rw [e,AcW hok.1]
    ·rw [AcQ e] at hg ⊢
     obtain ⟨h1,h2,h3⟩:=h.env n u hg
     exact ⟨h1,h2.step hn.stp fun d off e'=>hn.own d fun hd=>e (by rw [h3 d off e',hdk d hd]),h3⟩
   ·obtain ⟨h1,h2⟩:=h.loc n u hg
    have hne : n ≠ k:=fun e=>by rw [e,hl] at h1; cases h1
    rw [Gg hk,AcQ hne]
    exact ⟨h1,h2.step hn.stp (hL n u hg)⟩
def Bx (w : World) (β : Nat -> Nat) (B : List (Nat × List V)) (β' : Nat -> Nat) (B' : List (Nat × List V)) : Prop:=∀ d,(getB B' d).isSome -> (∃ q,(getB B q).isSome /\ β' d = β q) \/ w.heap.size <= β' d
theorem Bx.refl {B : List (Nat × List V)} : Bx w β B β B:=fun d hd=>.inl ⟨d,hd,rfl⟩
theorem Bx.trans {B B1 B2 : List (Nat × List V)} (h : Bx w β B β1 B1) (hs : w.heap.size <= w1.heap.size) (k : Bx w1 β1 B1 β2 B2) : Bx w β B β2 B2:=fun d hd=>by
 rcases k d hd with ⟨q,hq,e⟩ | e
 ·rw [e]
  exact h q hq
 ·exact .inr (Aec hs e)
def OJ (P : Program) (hi : Hint) (gl : Nat -> Option (List I)) (nt : Nat) (ops : Array Oper) (i : Nat) (q : Op) : Prop:=∃ o,ops[i]? = some o /\ Qn P hi gl ops o = some q /\ NL nt q = true
theorem Qg {ops : Array Oper} {Q : Exit -> Act -> World -> Prop} (hcall : CF P gl call) : ∀ (l : List Nat) (qs : List Op),All2 (OJ P hi gl nt ops) l qs -> ∀ (s s' : St) (a : Act) (w : World) (S : Nat -> Prop) (ρ β : Nat -> Nat),BE call qs s = some s' -> Inv hi nt ds w S ρ β s a -> GlOk gl w S ->
  (∀ a' w' S' ρ' β',Inv hi nt ds w' S' ρ' β' s' a' -> Stp w S ρ β s.M w' S' ρ' s'.M.H -> Bx w β s.M.B β' s'.M.B -> Q .normal a' w') -> wpOpsIn (FW rd) 0 P ops Q l a w:=by
 intro l qs hl
 induction hl with
 | nil =>
  intro s s' a w S ρ β he hI hG hQ
  simp only [BE,AcM] at he
  subst he
  exact hQ a w S ρ β hI (Stp.refl _ _ _ _ _) Bx.refl
 | @cons i q l qs hq hl ih =>
  intro s s' a w S ρ β he hI hG hQ
  obtain ⟨o,ho,hc,hwf⟩:=hq
  obtain ⟨g,qo,os,hg,rfl,hco⟩:=Ia hc
  simp only [BE,Dp,AcL] at he
  obtain ⟨s1,⟨b,hb,he1⟩,he2⟩:=he
  have hwant:=JR hI hg hb
  simp only [wpOpsIn,ho,hwant]
  have tail : ∀ {a1 : Act} {w1 : World} {S1 : Nat -> Prop} {ρ1 β1 : Nat -> Nat},Inv hi nt ds w1 S1 ρ1 β1 s1 a1 -> Stp w S ρ β s.M w1 S1 ρ1 s1.M.H -> Bx w β s.M.B β1 s1.M.B -> wpOpsIn (FW rd) 0 P ops Q l a1 w1:=fun {a1 w1 S1 ρ1 β1} hI1 hst hbx =>
   ih s1 s' a1 w1 S1 ρ1 β1 he2 hI1 (hG.step hst) fun a' w' S' ρ' β' h1 h2 h3=>hQ a' w' S' ρ' β' h1 (hst.trans hbx h2) (hbx.trans hst.size h3)
  cases b with
  | true =>
   simp only [Ab,AcL] at he1
   obtain ⟨hfr,vs,hvs,⟨v,M'⟩,hev,hset⟩:=he1
   simp only [if_true]
   rcases hco with ⟨az,hco,hQ,hos⟩ | ⟨rfl,rfl⟩
   case inr=>simp [Ac] at hvs; subst hvs; simp [evO,Ai] at hev
   refine (TV hco hQ hcall hI.ok hG (IE hI hG hos hvs) hev fun w' S' ρ' β' c hn=>?_)
   obtain ⟨h1,h2⟩:=hI.step rfl hwf hfr hn hset
   exact tail h1 (by rw [h2]; exact hn.stp) (by rw [h2]; exact hn.box)
  | false =>
   simp only [Bool.false_eq_true,if_false]
   have hn : Nxt w S ρ β s.M (.p .mv) .un s.M w S ρ β undef:=⟨hI.ok,Stp.refl _ _ _ _ _,.un,fun _ _=>rfl,fun d hd=>.inl ⟨d,hd,rfl⟩⟩
   have hwf' : NL nt ⟨Wi hi o.dst,.p .mv,[],none⟩ = true:=by
    simp only [NL,AcP] at hwf ⊢
    exact ⟨hwf.1,AdI⟩
   obtain ⟨h1,h2⟩:=hI.step rfl hwf' rfl hn he1
   exact ⟨fun _ _=>AdI,tail h1 (by rw [h2]; exact Stp.refl _ _ _ _ _) (by rw [h2]; exact Bx.refl)⟩
end
end Go.Mx
