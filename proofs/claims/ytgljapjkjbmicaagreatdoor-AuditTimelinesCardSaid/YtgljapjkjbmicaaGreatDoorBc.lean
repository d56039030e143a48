/- Soundness of the machine, part 3. Nothing here speaks of a program. -/
import Derived.Test.YtgljapjkjbmicaaGreatDoorBb
import Derived.CallsIn
import Derived.TacticsIn
import Derived.OrdersIn
import Derived.RangeFuncRecord
import Derived.RangeFuncLeaves
import Derived.Maps.AppendAt
import Derived.Orders
set_option linter.unusedSimpArgs false
set_option linter.unusedVariables false
set_option linter.unusedSectionVars false
/- Strings over bytes; slice literals whose parts are frozen; copy. -/
namespace Go.Mx
section
variable {P : Program} {w : World} {S : Nat -> Prop} {ρ β : Nat -> Nat} {M M' : Mem} {H : Hp} {o : Oper} {a : Act} {vs : List V} {v : V} {call : Bp}
end
end Go.Mx
/- Steps one after the other; slice literals whose parts are frozen. -/
namespace Go.Mx
section
variable {P : Program} {w w1 w2 : World} {S S1 S2 : Nat -> Prop} {ρ ρ1 ρ2 β β1 : Nat -> Nat} {M M1 M' : Mem} {H H2 : Hp} {o : Oper} {a : Act} {vs : List V} {v : V} {call : Bp}
theorem Stp.trans (h : Stp w S ρ β M w1 S1 ρ1 M1.H) (hb : ∀ d,(getB M1.B d).isSome -> (∃ q,(getB M.B q).isSome /\ β1 d = β q) \/ w.heap.size <= β1 d) (k : Stp w1 S1 ρ1 β1 M1 w2 S2 ρ2 H2) : Stp w S ρ β M w2 S2 ρ2 H2 where
 vals v c hv:=k.vals v c (h.vals v c hv)
 stab b hb:=k.stab b (h.stab b hb)
 heap b hb:=(k.heap b (h.stab b hb)).trans (h.heap b hb)
 keep b hlt hr hd:=by
  refine (k.keep b (AbY hlt h.size) (fun r hr' e=>?_) (fun d hd' e=>?_)).trans (h.keep b hlt hr hd)
  ·rcases h.rown r hr' with ⟨q,hq,e'⟩ | e'
   ·exact hr q hq (e.trans e')
   ·omega
  ·rcases hb d hd' with ⟨q,hq,e'⟩ | e'
   ·exact hd q hq (e.trans e')
   ·omega
 news b hb:=by
  rcases k.news b hb with hb | hb | ⟨r,hr,e⟩
  ·exact h.news b hb
  ·exact .inr (.inl (AbF h.size hb))
  ·rcases h.rown r hr with ⟨q,hq,e'⟩ | e'
   ·exact .inr (.inr ⟨q,hq,e.trans e'⟩)
   ·exact .inr (.inl (by omega))
 rown r hr:=by
  rcases k.rown r hr with ⟨q,hq,e⟩ | e
  ·rcases h.rown q hq with ⟨q',hq',e'⟩ | e'
   ·exact .inl ⟨q',hq',e.trans e'⟩
   ·exact .inr (by omega)
  ·exact .inr (AbF h.size e)
 size:=AbF h.size k.size
 os:=k.os.trans h.os
 tape:=k.tape.trans h.tape
 output:=k.output.trans h.output
 drawn:=fun hd=>AbF (h.drawn hd) (k.drawn hd)
theorem Pc {R : Nat -> Prop} (hok : Ok w S ρ β M) (hcl : OJ R M.H) {n : Nat} {xs : List V} {l : List I} {cs : List Value} (h1 : Ai (view n M.H) xs = some l) (h2 : ∀ x,x ∈ xs -> InN R n x) (h3 : RepL w S ρ M.H xs cs) : LI w (Sof S ρ M.H R) l cs:=by
 obtain ⟨g1,g2⟩:=AI h1
 refine ⟨by rw [Abe,g1]; exact h3.1,fun j y hj=>?_⟩
 rw [Abb] at hj
 obtain ⟨z,hz,rfl⟩:=Abh.1 hj
 obtain ⟨x,hx,hf⟩:=g2 j z hz
 obtain ⟨c,hc,hr⟩:=h3.2 j x hx
 exact ⟨c,hc,.m (EP hok hcl n x c z hf (h2 x (AaS hx)) hr)⟩
theorem LI.mono (hw : ∀ b,S b -> w1.heap[b]? = w.heap[b]?) (hS : ∀ b,S b -> S1 b) {l : List I} {cs : List Value} (h : LI w S l cs) : LI w1 S1 l cs:=by
 refine ⟨h.1,fun j x hj=>?_⟩
 obtain ⟨c,hc,hr⟩:=h.2 j x hj
 rw [Abb] at hj
 obtain ⟨z,hz,rfl⟩:=Abh.1 hj
 exact ⟨c,hc,.m (hr.imm.mono hw hS)⟩
theorem LI.toL {l : List I} {cs : List Value} (h : LI w S l cs) : RepL w S ρ H (l.map .m) cs:=by
 refine ⟨h.1,fun j x hj=>?_⟩
 obtain ⟨c,hc,hr⟩:=h.2 j x hj
 rw [Abb] at hj
 obtain ⟨z,hz,rfl⟩:=Abh.1 hj
 exact ⟨c,hc,.m hr.imm⟩
theorem KO {x : V} (h : CP x = true) {rs : List Nat} (hr : ∀ r,r ∈ Fy x -> r ∈ rs) (n : Nat) : InN (· ∈ rs) n x:=by
 cases n with
 | zero=>exact AbL
 | succ n=>cases x <;> first | exact AbL | (simp [CP] at h; done) | exact hr _ (by simp [Fy])
theorem Tk {x y : V} {l : List V} (h : CE x = true) {rs : List Nat} (hr : ∀ r,r ∈ DG x -> r ∈ rs) (hl : Av x = some l) (hy : y ∈ l) (n : Nat) : InN (· ∈ rs) n y:=by
 cases x with
 | m i =>
  cases i with
  | ag cs =>
   simp only [Av,AaG] at hl
   subst hl
   obtain ⟨z,_,rfl⟩:=Abz.1 hy
   exact JF rfl n
  | _ =>
   simp only [Av,AaG] at hl
   subst hl
   rw [Abn.1 hy]
   exact JF rfl n
 | ag cs =>
  simp only [Av,AaG] at hl
  subst hl
  exact KO (AaZ.1 h y hy) (fun r hr'=>hr r (List.mem_flatMap.2 ⟨y,hy,hr'⟩)) n
 | tu vs=>simp [Av] at hl
 | un=>simp [Av] at hl
 | fa d off=>simp [Av] at hl
 | _ =>
  simp only [Av,AaG] at hl
  subst hl
  rw [Abn.1 hy]
  exact Fw h hr n
theorem HT {esz : Nat} : ∀ (ps : List Nat) (xs : List V) (es es' : List (List V)),Bu esz es ps xs = some es' -> ∀ y,y ∈ es'.flatten -> y ∈ es.flatten \/ ∃ x,x ∈ xs /\ ∃ l,Av x = some l /\ y ∈ l
 | [],[],es,es',h,y,hy=>by simp only [Bu,AaG] at h; subst h; exact .inl hy
 | [],_ :: _,es,es',h,y,hy=>by simp [Bu] at h
 | _ :: _,[],es,es',h,y,hy=>by simp [Bu] at h
 | p :: ps,x :: xs,es,es',h,y,hy=>by
  simp only [Bu,AaF,Ah,AaV] at h
  obtain ⟨lx,hlx,hsz,es1,hes1,h⟩:=h
  obtain ⟨_,rfl⟩:=BJ hes1
  rcases HT ps xs _ es' h y hy with hy | ⟨z,hz,l,hl,hy⟩
  ·obtain ⟨e,he,hye⟩:=List.mem_flatten.1 hy
   rcases List.mem_or_eq_of_mem_set he with he | he
   ·exact .inl (List.mem_flatten.2 ⟨e,he,hye⟩)
   ·subst he
    exact .inr ⟨x,by simp,_,hlx,hye⟩
  ·exact .inr ⟨z,by simp [hz],l,hl,hy⟩
theorem Va {c : Value} {x : V} (h : toV c = some x) : isM x = true:=by
 unfold toV at h
 split at h <;> first | contradiction | (simp only [AaG] at h; subst h; rfl)
theorem OY {t : TypeId} {zs : List V} (h : CM P t = some zs) : ∀ x,x ∈ zs -> isM x = true:=by
 simp only [CM,AaF,Ah] at h
 obtain ⟨i,_,z,_,_,hm⟩:=h
 intro x hx
 obtain ⟨j,hj,rfl⟩:=List.getElem_of_mem hx
 obtain ⟨c,_,hf⟩:=(AI hm).2 j _ (AaK hj)
 exact Va hf
theorem Vx {t e : TypeId} {n s : Nat} {ps : Array (Nat × Operand)} {zs : List V} (ho : o.op = .buildSlice t n ps) (hu : P.underlying t = some (.slice e)) (hs : Bi P e = some s) (hlim : n * s <= 16777216) (hpos : 1 <= s) (hz : CM P e = some zs)
  (hok : Ok w S ρ β M) (hv : All2 (RepX w S ρ β M.H) vs ((ps.toList.map (·.2)).map a.eval)) (he : Am call M (.bsf s zs n (ps.toList.map (·.1))) vs = some (v,M')) :
  Outc w S ρ β M (.l (.bsf s zs n (ps.toList.map (·.1)))) v M' ((execOp a.eval o).run P w):=by
 simp only [Am,AaF,Ah,AaG,AaH] at he
 obtain ⟨es,hes,hsh,l,hl,H',hH',rfl,rfl⟩:=he
 obtain ⟨C',hrun,hR,hU,hlen⟩:=Es (P:=P) (w:=w) (S:=S) (ρ:=ρ) (β:=β) (H:=M.H) (a:=a) hu hs hlim hpos hz hv hes
 obtain ⟨hok1,hst1,hl1,hf1⟩:=Eg _ hok hH'
 have hcl:=HD hf1
 have hin : ∀ x,x ∈ es.flatten -> InN (· ∈ vs.flatMap DG) 20 x:=fun x hx=>by
  rcases HT _ _ _ _ hes x hx with hx | ⟨y,hy,l,hl,hx⟩
  ·obtain ⟨e,he,hxe⟩:=List.mem_flatten.1 hx
   rw [(List.mem_replicate.1 he).2] at hxe
   exact JF (OY hz x hxe) 20
  ·exact Tk (AaZ.1 hsh y hy) (fun r hr=>List.mem_flatMap.2 ⟨y,hy,hr⟩) hl hx 20
 have hLI:=Pc hok hcl (EB hl) hin hR
 obtain ⟨hok2,hst2⟩:=hok1.allocI (Gw.alloc w (.cells C' e) none) (by simp)
 have hst:=Stp.trans (M1:={ M with H:=H' }) hst1 (fun d hd=>.inl ⟨d,hd,rfl⟩) hst2
 have hUI:=HK hl hU
 have hll:=(AI hl).1
 have hln : l.length <= maxLen:=by
  have : n * 1 <= n * s:=Nat.mul_le_mul_left _ hpos
  unfold maxLen; omega
 have hLI2 : LI (w.alloc (.cells C' e)) (AaC (Sof S ρ M.H (· ∈ vs.flatMap DG)) w) l.flatten C'.toList:=hLI.mono (fun b hb=>heap_alloc_old w _ b (hok1.lt b hb)) (fun b hb=>.inl hb)
 have hCl:=hLI2.len
 rw [hUI.len] at hCl
 have hI:=RepI.ofRow (ρ:=ρ) (H:=H') (S:=AaC (Sof S ρ M.H (· ∈ vs.flatMap DG)) w) (b:=w.heap.size) (cap:=l.length) (.inr rfl) (heap_alloc_new w (.cells C' e)) hUI (by rw [Abc (by omega)]; exact hLI2.toL) (AaQ _) hln
 refine ⟨.value (.slice (some ⟨w.heap.size,0,none⟩) n n),_,w.alloc (.cells C' e),_,ρ,β,by simp [execOp,ho,hrun],.inl rfl,hok2,hst,RepX.ofV ?_,fun _ _=>rfl,fun d hd=>.inl ⟨d,hd,rfl⟩⟩
 rw [<- hlen,<- hll]
 exact .ls l _ hI
end
end Go.Mx
/- copy and append. -/
namespace Go.Mx
section
variable {P : Program} {w w1 w2 : World} {S S1 S2 : Nat -> Prop} {ρ ρ1 ρ2 β β1 : Nat -> Nat} {M M1 M' : Mem} {H H2 : Hp} {o : Oper} {a : Act} {vs : List V} {v : V} {call : Bp}
structure Src (P : Program) (w : World) (size m : Nat) (x : Value) (news : List Value) : Prop where
 len : Builtin.lenOf x = pure m
 get : ∀ w' : World,w'.heap = w.heap -> (Builtin.firstCells size m x).run P w' = .ok news.toArray w'
theorem Qn {w w' : World} (h : w'.heap = w.heap) (p : Addr) : w'.cell? p = w.cell? p:=World.cell?_of_block (by rw [h])
theorem Src.slice {size m cap b off : Nat} {news : List Value} (hl : news.length = m * size) (hc : ∀ (j : Nat) u,news[j]? = some u -> w.cell? ⟨b,off + j,none⟩ = some u) : Src P w size m (.slice (some ⟨b,off,none⟩) m cap) news :=
 ⟨rfl,fun w' hw=>run_firstCells_some w' size m _ m cap news hl fun j u hj=>by rw [Qn hw,Be]; exact hc j u hj⟩
theorem Src.slice' {size m len cap b off : Nat} {news : List Value} (hl : news.length = m * size) (hlen : len = m) (hc : ∀ (j : Nat) u,news[j]? = some u -> w.cell? ⟨b,off + j,none⟩ = some u) : Src P w size m (.slice (some ⟨b,off,none⟩) len cap) news:=by
 subst hlen
 exact Src.slice hl hc
theorem Src.none {size cap : Nat} {ad : Option Addr} : Src P w size 0 (.slice ad 0 cap) [] :=
 ⟨rfl,fun w' _=>by
  cases ad with
  | none=>simp [Builtin.firstCells]
  | some p=>simp [Builtin.firstCells,loadCells,loadCellsFrom]⟩
theorem Src.string {size : Nat} (s : ByteArray) : Src P w size s.size (.string s) (Lib.strCells s) :=
 ⟨rfl,fun w' _=>Lib.run_firstCells_string w' size s⟩
section
variable {ts : Array TypeId} {ty t t1 e : TypeId} {u1 : TypeDesc} {i : TypeInfo} {z x : Value} {m : Nat} {news : List Value}
theorem Ts (h0 : ts[0]? = some t) (h1 : ts[1]? = some t1) (ht : P.underlying t = some (.slice e)) (hu1 : P.underlying t1 = some u1) (hn : (∃ e',u1 = .slice e') \/ u1 = .string) (hi : P.info? e = some i)
  (hs : Src P w i.size m x news) (hl : news.length = m * i.size) {g sLen sCap : Nat} {cur : Array Value} {T : TypeId} {mk : Nat × Nat} (hg : w.heap[g]? = some (.cells cur T mk)) (hw : Win cur.size mk) (hone : ∀ u,u ∈ news -> u.oneCell' = true) (hroom : sLen + m <= sCap) (hfit : sLen * i.size + news.length <= cur.size) :
  (Builtin.append_ ts ty #[.slice (some ⟨g,0,none⟩) sLen sCap,x]).run P w =
   .ok (.slice (some ⟨g,0,none⟩) (sLen + m) sCap) (w.setRow g (cur.toList.take (sLen * i.size) ++ news ++ cur.toList.drop (sLen * i.size + news.length)).toArray):=by
 have hf:=hs.get w rfl
 have hst:=Bt P g (sLen * i.size) T mk news 0 cur w hg hw (by simpa using hfit) hone
 simp only [Nat.add_zero] at hst
 rcases hn with ⟨e',rfl⟩ | rfl <;> simp [Builtin.append_,h0,h1,run_underlying ht,run_underlying hu1,AA hi,hs.len,hroom,hf,Addr.add_lit,hst]
theorem Tt (h0 : ts[0]? = some t) (h1 : ts[1]? = some t1) (ht : P.underlying t = some (.slice e)) (hu1 : P.underlying t1 = some u1) (hn : (∃ e',u1 = .slice e') \/ u1 = .string) (hi : P.info? e = some i)
  (hs : Src P w i.size 0 x []) {ad : Option Addr} {sLen sCap : Nat} (hroom : sLen <= sCap) :
  (Builtin.append_ ts ty #[.slice ad sLen sCap,x]).run P w = .ok (.slice ad sLen sCap) w:=by
 have hf:=hs.get w rfl
 rcases hn with ⟨e',rfl⟩ | rfl <;> cases ad <;> simp [Builtin.append_,h0,h1,run_underlying ht,run_underlying hu1,AA hi,hs.len,hroom,hf,storeCells]
theorem MO (h0 : ts[0]? = some t) (h1 : ts[1]? = some t1) (ht : P.underlying t = some (.slice e)) (hu1 : P.underlying t1 = some u1) (hn : (∃ e',u1 = .slice e') \/ u1 = .string) (hi : P.info? e = some i) (hz : i.zero = some z)
  (hs : Src P w i.size m x news) {ad : Option Addr} {sLen sCap : Nat} {olds : List Value} (ho : Src P w i.size sLen (.slice ad sLen sCap) olds) (hg : sCap < sLen + m) (h63 : sLen + m <= maxLen) (hby : (sLen + m) * i.bytes <= 140737488355328) :
  (Builtin.append_ ts ty #[.slice ad sLen sCap,x]).run P w =
   .ok (.slice (some ⟨w.heap.size,0,none⟩) (sLen + m) (grownCap w (sLen + m) sCap e)) (w.drew.alloc (.cells (olds.toArray ++ news.toArray ++ Builtin.zeroCells z.cells (grownCap w (sLen + m) sCap e - (sLen + m))) e)):=by
 have hnr : ¬ (sLen + m <= sCap):=by omega
 have h63' : ¬ (9223372036854775807 < ((sLen : Int) + (m : Int))):=by unfold maxLen at h63; omega
 have hfit:=growslice_fits hg hby
 have h48 : ¬ (281474976710656 < Builtin.nextslicecap (sLen + m) sCap * i.bytes):=by omega
 have hf:=hs.get w.drew rfl
 have hfo:=ho.get w.drew rfl
 rcases hn with ⟨e',rfl⟩ | rfl <;> simp [Builtin.append_,h0,h1,run_underlying ht,run_underlying hu1,AA hi,Jo hi,AZ hi hz,hs.len,hnr,h63',h48,Question.forced,hf,hfo,grownCap,Fx] <;> rw [<- Array.append_assoc,show olds.toArray ++ news.toArray = (olds ++ news).toArray by simp]
end
theorem Jj (s : ByteArray) : Lib.strCells s = (s.data.toList.map UInt8.toNat).map fun c : Nat=>Value.int .u8 (c : Int):=by
 simp [Lib.strCells]
theorem KL {x : V} {c : Value} {xs : List (List V)} (hok : Ok w S ρ β M) (hx : RepX w S ρ β M.H x c) (h : elems M.H x = some xs) (esz : Nat) (hU : Uni esz xs) : ∃ news,Src P w esz xs.length c news /\ news.length = xs.length * esz /\ RepL w S ρ M.H xs.flatten news:=by
 obtain ⟨ad,cap,esz1,cells,rfl,hu1,hr,hc⟩:=Fg hok hx h
 have hl : cells.length = xs.length * esz:=by rw [hr.1,hU.len]
 by_cases hne : xs = []
 ·subst hne
  have : cells = []:=Abf (by simpa using hl)
  subst this
  exact ⟨[],Src.none,by simp,hr⟩
 ·obtain ⟨b,off,rfl,hcell,_⟩:=hc hne
  exact ⟨cells,Src.slice hl hcell,hl,hr⟩
theorem Vb {l : List Nat} {c : Value} (hx : RepX w S ρ β M.H (.m (.s l)) c) (esz : Nat) (h1 : esz = 1) : ∃ news,Src P w esz (l.map fun c : Nat=>[V.m (.i .u8 (Int.ofNat c))]).length c news /\ news.length = (l.map fun c : Nat=>[V.m (.i .u8 (Int.ofNat c))]).length * esz /\
  RepL w S ρ M.H (l.map fun c : Nat=>[V.m (.i .u8 (Int.ofNat c))]).flatten news:=by
 subst h1
 obtain ⟨s,rfl,rfl⟩:=Dw (RepX.toV rfl hx)
 refine ⟨Lib.strCells s,by simpa using Src.string s,by simp [Lib.strCells_length],?_⟩
 rw [Jj]
 generalize s.data.toList.map UInt8.toNat = l
 induction l with
 | nil=>exact .nil
 | cons c l ih=>exact .cons (.m (.i .u8 _)) ih
theorem OZ (z : Array Value) (n : Nat) : (Builtin.zeroCells z n).size = n * z.size:=size_zeroCells z n
theorem Lq {c : Go.Call} {t t1 e : TypeId} {u1 : TypeDesc} {esz bytes : Nat} {z : Value} {i : TypeInfo} {x : Value} {xs es0 : List (List V)} {news olds : List Value} {ad : Option Addr} {sCap : Nat} {val : V} (ho : o.op = .call c) (hb : c.callee = .builtin .append) (h0 : c.argTypes[0]? = some t) (h1 : c.argTypes[1]? = some t1) (ht : P.underlying t = some (.slice e)) (hu1 : P.underlying t1 = some u1) (hn : (∃ e',u1 = .slice e') \/ u1 = .string)
  (hi : P.info? e = some i) (hz : i.zero = some z) (hzs : z.cells.size = i.size) (hesz : i.size = esz) (hby : i.bytes = bytes) (hb1 : 1 <= bytes) (hok : Ok w S ρ β M) (hm : c.args.map a.eval = #[.slice ad es0.length sCap,x])
  (hs : Src P w esz xs.length x news) (hnl : news.length = xs.length * esz) (hnr : RepL w S ρ M.H xs.flatten news) (hos : Src P w esz es0.length (.slice ad es0.length sCap) olds) (hol : olds.length = es0.length * esz) (hor : RepL w S ρ M.H es0.flatten olds)
  (hg : sCap < es0.length + xs.length) (he : BI M e esz bytes (es0 ++ xs) = some (val,M')) :
  Outc w S ρ β M (.l (.app e esz bytes)) val M' ((execOp a.eval o).run P w):=by
 subst hesz; subst hby
 simp only [BI,Ah,AaJ,Abv,AaG,AaH,AaZ,AaV] at he
 obtain ⟨⟨⟨hbs,hpos⟩,hall⟩,rfl,rfl⟩:=he
 rw [AaX] at hbs
 have h47 : es0.length + xs.length <= 140737488355328:=by
  have : (es0.length + xs.length) * 1 <= (es0.length + xs.length) * i.bytes:=Nat.mul_le_mul_left _ hb1
  omega
 have h63 : es0.length + xs.length <= maxLen:=by unfold maxLen; omega
 have hrun:=MO (P:=P) (w:=w) (ty:=o.type) h0 h1 ht hu1 hn hi hz hs hos hg h63 hbs
 have hU : Uni i.size (es0 ++ xs):=fun e he=>(hall e he).1
 have hcm:=grownCap_le_maxLen w _ sCap e h63
 have hge:=grownCap_ge w (es0.length + xs.length) sCap e
 have hsize : (olds.toArray ++ news.toArray ++ Builtin.zeroCells z.cells (grownCap w (es0.length + xs.length) sCap e - (es0.length + xs.length))).size = grownCap w (es0.length + xs.length) sCap e * i.size:=by
  simp only [Array.size_append,List.size_toArray,OZ,hzs,hol,hnl,<- Abm]
  congr 1
  omega
 have hh:=heap_alloc_new w.drew (.cells (olds.toArray ++ news.toArray ++ Builtin.zeroCells z.cells (grownCap w (es0.length + xs.length) sCap e - (es0.length + xs.length))) e)
 refine KS (cap:=grownCap w (es0.length + xs.length) sCap e) (c:=.slice (some ⟨w.heap.size,0,none⟩) (es0.length + xs.length) (grownCap w (es0.length + xs.length) sCap e)) (w':=w.drew.alloc (.cells (olds.toArray ++ news.toArray ++ Builtin.zeroCells z.cells (grownCap w (es0.length + xs.length) sCap e - (es0.length + xs.length))) e)) hok hpos hU (DC w _) (by simp) hh (by simpa using hge) hcm hsize ?_ (AH ho hb (fun _=>by rw [hm]; rfl) hrun) (fun ρ' hρ=>?_)
 ·have : (olds.toArray ++ news.toArray ++ Builtin.zeroCells z.cells (grownCap w (es0.length + xs.length) sCap e - (es0.length + xs.length))).toList.take ((es0 ++ xs).length * i.size) = olds ++ news:=by
   simp only [Array.toList_append,AaX]
   rw [List.take_append_of_le_length (by simp; rw [hol,hnl,Abm]; omega),Abc (by simp; rw [hol,hnl,Abm]; omega)]
  rw [this,List.flatten_append]
  exact hor.append hnr
 ·rw [AaX]
  exact .sl M.H.length (es0.length + xs.length) i.size 0 (es0.length + xs.length) false e (es0 ++ xs) 0 false _ _ (Iq _ _) (by omega) (by simp) hge hcm (fun h=>by cases h) ⟨_,rfl⟩ (fun _ _=>⟨w.heap.size,by simp,.inl hρ.symm⟩) (fun _ _ _ _=>⟨by rw [hρ],_,(0,0),by rw [hρ]; exact hh,hsize⟩)
end
end Go.Mx
/- append and copy: the operations. -/
namespace Go.Mx
section
variable {P : Program} {w : World} {S : Nat -> Prop} {ρ β : Nat -> Nat} {M M' : Mem} {H : Hp} {o : Oper} {a : Act} {vs : List V} {v : V} {call : Bp}
theorem JI {w w' : World} {row : Option Nat} (h : Gw w w' none) : Gw w w' row:=⟨⟨h.os,h.tape,h.output,h.size,fun k hk _=>h.block k hk (by simp)⟩,h.drawn⟩
theorem Wi {r ty esz : Nat} {es xs : List (List V)} {base : Nat} {cur : Array Value} {news : List Value} {cap : Nat} {mk : Nat × Nat} (hok : Ok w S ρ β M) (hrow : M.H[r]? = some (.cs ty esz es base false)) (hh : w.heap[ρ r]? = some (.cells cur ty mk)) (hw : Win cur.size mk)
  (hU : Uni esz xs) (hne : xs ≠ []) (hcap : cur.size = cap * esz) (hle : es.length + xs.length <= cap) (hcm : cap <= maxLen) (hnl : news.length = xs.length * esz) (hr : RepL w S ρ M.H es.flatten (cur.toList.take (es.length * esz))) (hn : RepL w S ρ M.H xs.flatten news) :
  Ok (w.setRow (ρ r) (cur.toList.take (es.length * esz) ++ news ++ cur.toList.drop (es.length * esz + news.length)).toArray) S ρ β { M with H:=M.H.set r (.cs ty esz (es ++ xs) base false) } /\
   Stp w S ρ β M (w.setRow (ρ r) (cur.toList.take (es.length * esz) ++ news ++ cur.toList.drop (es.length * esz + news.length)).toArray) S ρ (M.H.set r (.cs ty esz (es ++ xs) base false)):=by
 obtain ⟨hb,hpos,hU0,_,hns,_⟩:=hok.rows r _ hrow
 have hU0 : Uni esz es:=hU0
 have hnS:=hns rfl
 have hxl : 0 < xs.length:=List.length_pos_iff.2 hne
 have hmul : (es.length + xs.length) * esz <= cap * esz:=Abg _ hle
 rw [Abm] at hmul
 have hsz : (cur.toList.take (es.length * esz) ++ news ++ cur.toList.drop (es.length * esz + news.length)).toArray.size = cur.size:=by
  simp only [List.size_toArray,AaX,AaW,Abt,Abp]
  omega
 have hh':=setRow_heap w (ρ r) cur (cur.toList.take (es.length * esz) ++ news ++ cur.toList.drop (es.length * esz + news.length)).toArray ty mk hh
 have hcell : ∀ j,j < es.length * esz -> (w.setRow (ρ r) (cur.toList.take (es.length * esz) ++ news ++ cur.toList.drop (es.length * esz + news.length)).toArray).cell? ⟨ρ r,j,none⟩ = w.cell? ⟨ρ r,j,none⟩:=fun j hj=>by
  rw [cell_of_row _ _ j _ ty _ hh',cell_of_row _ _ j cur ty _ hh]
  have h1 : j < (cur.toList.take (es.length * esz) ++ news).length:=by
   simp only [AaX,AaW,Abp]; omega
  have h2 : j < (cur.toList.take (es.length * esz)).length:=by
   simp only [AaW,Abp]; omega
  rw [List.getElem?_toArray,Aba h1,Aba h2,Abx,AaN hj]
  simp
 have key:=Ok.setRow (w':=w.setRow (ρ r) (cur.toList.take (es.length * esz) ++ news ++ cur.toList.drop (es.length * esz + news.length)).toArray) (S':=S) (g:=ρ r) (row':=.cs ty esz (es ++ xs) base false) hok hrow (DP w _ _) (.inl rfl) (fun _ h=>h) (fun b h=>.inl h)
  (fun b hb=>setRow_other w _ b _ (fun e=>hnS (e ▸ hb)))
  (fun ty1 esz1 es1 base1 fz1 e=>by
   cases e
   refine ⟨es ++ xs,base,false,rfl,by simp,AaQ _,fun b ver h1 h2 hA=>?_,fun e=>by simp at e; exact absurd e hne⟩
   rcases hA with hA | ⟨hSb,hv,hc⟩
   ·exact .inl hA
   ·refine .inr ⟨hSb,by rw [AaX]; omega,fun j hj=>?_⟩
    have : ver * esz <= es.length * esz:=Abg _ h1
    rw [hcell j (by omega),World.cell?_of_block (a:=⟨b,j,none⟩) (setRow_other w (ρ r) b _ (fun e=>hnS (e ▸ hSb)))]
    exact hc j hj)
  (fun es1 fz1 e=>by cases e)
  (fun hto=>by
   rw [LD] at hto ⊢
   refine ⟨by simp; omega,hpos,hU0.append hU,fun e=>(by cases e),fun _=>hnS,_,cap,mk,hh',fun _=>(by rw [hsz]; exact hw),by omega,by simp; omega,hcm,?_⟩
   have : (cur.toList.take (es.length * esz) ++ news ++ cur.toList.drop (es.length * esz + news.length)).toArray.toList.take ((es ++ xs).length * esz) = cur.toList.take (es.length * esz) ++ news:=by
    rw [List.toList_toArray,AaX,Abm,List.take_append_of_le_length (by simp only [AaX,AaW,Abp]; omega),
     Abc (by simp only [AaX,AaW,Abp]; omega)]
   rw [this,List.flatten_append]
   exact (hr.append hn).mono hto)
 rw [LD] at key
 exact key
theorem SX {r ty esz : Nat} {es xs : List (List V)} {base : Nat} {cur arr : Array Value} {news : List Value} {cap cap' : Nat} {w' : World} {mk : Nat × Nat} (hok : Ok w S ρ β M) (hrow : M.H[r]? = some (.cs ty esz es base false)) (hh : w.heap[ρ r]? = some (.cells cur ty mk))
  (hU : Uni esz xs) (hne : xs ≠ []) (hcap : cur.size = cap * esz) (hle0 : es.length <= cap) (hnl : news.length = xs.length * esz) (hr : RepL w S ρ M.H es.flatten (cur.toList.take (es.length * esz))) (hn : RepL w S ρ M.H xs.flatten news)
  (hg : Gw w w' none) (hnew : w'.heap[w.heap.size]? = some (.cells arr ty (0,0))) (hasz : arr.size = cap' * esz) (hle : es.length + xs.length <= cap') (hcm : cap' <= maxLen) (harr : arr.toList.take ((es.length + xs.length) * esz) = cur.toList.take (es.length * esz) ++ news) :
  Ok w' (fun b=>S b \/ b = ρ r) (fun k=>if k = r then w.heap.size else ρ k) β { M with H:=M.H.set r (.cs ty esz (es ++ xs) base false) } /\
   Stp w S ρ β M w' (fun b=>S b \/ b = ρ r) (fun k=>if k = r then w.heap.size else ρ k) (M.H.set r (.cs ty esz (es ++ xs) base false)):=by
 obtain ⟨hb,hpos,hU0,_,hns,_⟩:=hok.rows r _ hrow
 have hU0 : Uni esz es:=hU0
 have hnS:=hns rfl
 have hxl : 0 < xs.length:=List.length_pos_iff.2 hne
 have hrl:=(AaI.1 hrow).1
 have hρl:=hok.rlt hrl
 have hmul : es.length * esz <= cap * esz:=Abg _ hle0
 have old : ∀ b,b < w.heap.size -> w'.heap[b]? = w.heap[b]?:=fun b hb=>hg.block b hb (by simp)
 have hcell : ∀ j,j < es.length * esz -> w'.cell? ⟨w.heap.size,j,none⟩ = w.cell? ⟨ρ r,j,none⟩:=fun j hj=>by
  rw [cell_of_row _ _ j _ ty _ hnew,cell_of_row _ _ j cur ty _ hh]
  have h2 : j < (cur.toList.take (es.length * esz)).length:=by
   simp only [AaW,Abp]; omega
  have h3 : (arr.toList.take ((es.length + xs.length) * esz))[j]? = (cur.toList.take (es.length * esz) ++ news)[j]?:=by rw [harr]
  rw [Abx,AaN (by rw [Abm]; omega),Aba h2,Abx,AaN hj] at h3
  simpa using h3
 refine Ok.setRow (w':=w') (S':=fun b=>S b \/ b = ρ r) (g:=w.heap.size) (row':=.cs ty esz (es ++ xs) base false) hok hrow (JI hg) (.inr (AaQ _)) (fun _ h=>.inl h) (fun b h=>h)
  (fun b hb=>old b (hok.lt b hb))
  (fun ty1 esz1 es1 base1 fz1 e=>by
   cases e
   refine ⟨es ++ xs,base,false,rfl,by simp,AaQ _,fun b ver h1 h2 hA=>?_,fun e=>by simp at e; exact absurd e hne⟩
   have hm2 : ver * esz <= es.length * esz:=Abg _ h1
   rcases hA with hA | ⟨hSb,hv,hc⟩
   ·subst hA
    refine .inr ⟨.inr rfl,by rw [AaX]; omega,fun j hj=>?_⟩
    rw [hcell j (by omega)]
    exact World.cell?_of_block (a:=⟨ρ r,j,none⟩) (old _ hρl)
   ·refine .inr ⟨.inl hSb,by rw [AaX]; omega,fun j hj=>?_⟩
    rw [hcell j (by omega),World.cell?_of_block (a:=⟨b,j,none⟩) (old b (hok.lt b hSb))]
    exact hc j hj)
  (fun es1 fz1 e=>by cases e)
  (fun hto=>?_)
 have hgr : (if r = r then w.heap.size else ρ r) = w.heap.size:=AaN rfl
 refine ⟨by simp; omega,hpos,hU0.append hU,fun e=>(by cases e),fun _=>?_,arr,cap',(0,0),by simpa [hgr] using hnew,fun _=>.inl rfl,hasz,by simpa using hle,hcm,?_⟩
 ·show ¬ (S (if r = r then w.heap.size else ρ r) \/ (if r = r then w.heap.size else ρ r) = ρ r)
  rw [hgr]
  rintro (h | h)
  ·have:=hok.lt _ h; omega
  ·omega
 ·rw [AaX,harr,List.flatten_append]
  exact (hr.append hn).mono hto
theorem NJ {s : V} {cs : Value} (h : RepX w S ρ β H s cs) (hs : (∃ l,s = .m (.sl l)) \/ (∃ l,s = .ls l) \/ s = .m (.nl 4) \/ ∃ r ver esz st len lim,s = .sl r ver esz st len lim) : ∃ ad n cap,cs = .slice ad n cap /\ n <= cap:=by
 rcases hs with ⟨l,rfl⟩ | ⟨l,rfl⟩ | rfl | ⟨r,ver,esz,st,len,lim,rfl⟩
 ·obtain ⟨ad,cap,rfl,hle,_⟩:=Dt (RepX.toV rfl h).imm
  exact ⟨ad,_,cap,rfl,hle⟩
 ·have h:=RepX.toV rfl h
  cases h
  exact ⟨_,_,_,rfl,AaQ _⟩
 ·have:=EX (RepX.toV rfl h)
  exact ⟨_,_,_,this,AaQ _⟩
 ·have h:=RepX.toV rfl h
  cases h
  exact ⟨_,_,_,rfl,‹_›⟩
theorem MP {c : Go.Call} {t t1 e : TypeId} {u1 : TypeDesc} {esz bytes : Nat} {z : Value} {i : TypeInfo} {x cs : Value} {xs : List (List V)} {s val : V} (ho : o.op = .call c) (hb : c.callee = .builtin .append) (h0 : c.argTypes[0]? = some t) (h1 : c.argTypes[1]? = some t1) (ht : P.underlying t = some (.slice e)) (hu1 : P.underlying t1 = some u1) (hn : (∃ e',u1 = .slice e') \/ u1 = .string)
  (hi : P.info? e = some i) (hz : i.zero = some z) (hzs : z.cells.size = i.size) (hesz : i.size = esz) (hby : i.bytes = bytes) (hpos : 1 <= esz) (hb1 : 1 <= bytes) (hok : Ok w S ρ β M) (hm : c.args.map a.eval = #[cs,x]) (h : RepX w S ρ β M.H s cs)
  (hs : Uni esz xs -> ∃ news,Src P w esz xs.length x news /\ news.length = xs.length * esz /\ RepL w S ρ M.H xs.flatten news)
  (he : EG M e esz bytes s xs = some (val,M')) : Outc w S ρ β M (.l (.app e esz bytes)) val M' ((execOp a.eval o).run P w):=by
 unfold EG at he
 split at he
 ·have hU : Uni esz ([] : List (List V)):=fun y hy=>by simp at hy
  obtain ⟨news,hsrc,hnl,_⟩:=hs hU
  have : news = []:=Abf (by simpa using hnl)
  subst this
  have hf : s = val /\ M = M' /\ ((∃ l,s = .m (.sl l)) \/ (∃ l,s = .ls l) \/ s = .m (.nl 4) \/ ∃ r ver esz st len lim,s = .sl r ver esz st len lim):=by
   split at he <;> first | (cases he; done) | (simp only [AaG,AaH] at he; exact ⟨he.1,he.2,by simp⟩)
  obtain ⟨rfl,rfl,hf⟩:=hf
  obtain ⟨ad,n,cap,rfl,hle⟩:=NJ h hf
  subst hesz
  exact .val hok h (AH ho hb (fun _=>by rw [hm]; rfl) (Tt h0 h1 ht hu1 hn hi hsrc hle))
 ·rename_i y ys
  generalize hxs : y :: ys = xs at he hs
  have hne : xs ≠ []:=by rw [<- hxs]; simp
  have hxl : 0 < xs.length:=List.length_pos_iff.2 hne
  have uniOf : ∀ {l : List (List V)} {q : V × Mem},BI M e esz bytes l = some q -> Uni esz l:=fun {l q} h=>by
   simp only [BI,Ah,AaJ,AaZ,AaV] at h
   exact fun e he=>(h.1.2 e he).1
  split at he
  ·have hc:=EX (RepX.toV rfl h)
   subst hc
   obtain ⟨news,hsrc,hnl,hnr⟩:=hs (uniOf he)
   exact Lq (es0:=[]) (olds:=[]) ho hb h0 h1 ht hu1 hn hi hz hzs hesz hby hb1 hok hm hsrc hnl hnr Src.none (by simp) .nil (by simpa using hxl) he
  ·rename_i es
   have hU:=uniOf he
   have hUx : Uni esz xs:=fun q hq=>hU q (List.mem_append_right _ hq)
   have hUe : Uni esz (Et es):=fun q hq=>hU q (List.mem_append_left _ hq)
   obtain ⟨news,hsrc,hnl,hnr⟩:=hs hUx
   obtain ⟨olds,hos,hol,hor⟩:=KL (P:=P) hok h (show elems M.H (.ls es) = some (Et es) from rfl) esz hUe
   have h':=RepX.toV rfl h
   cases h' with | ls _ ad hI =>
   rw [<- Iw es] at hm hos
   exact Lq (es0:=Et es) ho hb h0 h1 ht hu1 hn hi hz hzs hesz hby hb1 hok hm hsrc hnl hnr hos hol hor (by omega) he
  ·rename_i r ver esz0 st len lim
   simp only [AaF,AK] at he
   obtain ⟨row,hrow,he⟩:=he
   split at he
   ·rename_i ty' esz' es base fz
    split at he
    ·simp only [Ah,AaJ,Abv,AaV] at he
     obtain ⟨⟨⟨hbv,rfl⟩,rfl⟩,he⟩:=he
     have hU:=uniOf he
     have hUx : Uni esz xs:=fun q hq=>hU q (List.mem_append_right _ hq)
     have hUe : Uni esz ((es.drop st).take len):=fun q hq=>hU q (List.mem_append_left _ hq)
     obtain ⟨news,hsrc,hnl,hnr⟩:=hs hUx
     have hel : elems M.H (.sl r ver esz st len true) = some ((es.drop st).take len):=by
      simp only [elems,AK,hrow,AaR,Nat.beq_refl,Bool.and_true,Ah,Abv,and_true]
      exact hbv
     obtain ⟨olds,hos,hol,hor⟩:=KL (P:=P) hok h hel esz hUe
     have h':=RepX.toV rfl h
     cases h' with | sl _ _ _ _ _ _ ty2 es2 base2 fz2 ad cap hrow2 g1 g2 g3 g4 g5 gn gb ga =>
     rw [hrow] at hrow2
     simp only [AaG,Row.cs.injEq] at hrow2
     obtain ⟨rfl,_,rfl,rfl,rfl⟩:=hrow2
     have hcl:=g5 rfl
     subst hcl
     have hlen : ((es.drop st).take cap).length = cap:=by rw [AaW,Abt]; omega
     rw [hlen] at hos
     exact Lq (es0:=(es.drop st).take cap) (olds:=olds) (sCap:=cap) (ad:=ad) ho hb h0 h1 ht hu1 hn hi hz hzs hesz hby hb1 hok (by rw [hlen]; exact hm) hsrc hnl hnr (by rw [hlen]; exact hos) hol hor (by omega) he
    ·simp only [Ah,AaJ,Abv,AaV,Abi,AaF,AaG,AaH,AaZ] at he
     obtain ⟨⟨⟨⟨⟨⟨⟨⟨⟨rfl,rfl⟩,rfl⟩,hz0⟩,rfl⟩,rfl⟩,rfl⟩,hbs⟩,hall⟩,H',hH',rfl,rfl⟩:=he
     have hz0:=hz0.symm
     subst hz0
     obtain ⟨hrl,rfl⟩:=BJ hH'
     have hUx : Uni esz xs:=fun q hq=>(hall q hq).1
     obtain ⟨news,hsrc,hnl,hnr⟩:=hs hUx
     have h':=RepX.toV rfl h
     cases h' with | sl _ _ _ _ _ _ ty2 es2 base2 fz2 ad cap hrow2 g1 g2 g3 g4 g5 gn gb ga =>
     rw [hrow] at hrow2
     simp only [AaG,Row.cs.injEq] at hrow2
     obtain ⟨rfl,_,rfl,rfl,rfl⟩:=hrow2
     obtain ⟨rfl,cur,mk,hh,hcs⟩:=ga rfl rfl rfl rfl
     obtain ⟨hbl,_,hU0,_,hns,cur',cap',mk',hh',hmk,hcs',hcap,hcm,hr⟩:=hok.rows r _ hrow
     rw [hh] at hh'
     simp only [AaG,Obj.cells.injEq] at hh'
     obtain ⟨rfl,_,rfl⟩:=hh'
     have hmk:=hmk rfl
     have hone : ∀ u,u ∈ news -> u.oneCell' = true:=EC (by
      rw [AaZ]
      intro y hy
      obtain ⟨l,hl,hyl⟩:=List.mem_flatten.1 hy
      exact (hall l hl).2 y hyl) hnr
     have hmul : cap = cap':=Nat.eq_of_mul_eq_mul_right hpos (by rw [<- hcs,hcs'])
     subst hmul
     by_cases hroom : es.length + xs.length <= cap
     ·have hm2 : (es.length + xs.length) * esz <= cap * esz:=Abg _ hroom
      rw [Abm] at hm2
      subst hesz
      have hrun:=Ts (ty:=o.type) h0 h1 ht hu1 hn hi hsrc hnl hh hmk hone hroom (by omega)
      obtain ⟨hok',hst⟩:=Wi hok hrow hh hmk hUx hne hcs hroom hcm hnl hr hnr
      refine ⟨_,.slice (some ⟨ρ r,0,none⟩) (es.length + xs.length) cap,_,_,_,_,AH ho hb (fun _=>by rw [hm]; rfl) hrun,.inl rfl,hok',hst,RepX.ofV ?_,fun _ _=>rfl,fun d hd=>.inl ⟨d,hd,rfl⟩⟩
      refine .sl r _ _ 0 _ false e (es ++ xs) base false _ cap (by simp [hrl]) (by omega) (by simp) hroom hcm (fun h=>by cases h) ⟨_,rfl⟩ (fun _ _=>⟨ρ r,by simp,.inl rfl⟩) (fun _ _ _ _=>⟨rfl,_,mk,setRow_heap w (ρ r) cur _ e mk hh,?_⟩)
      simp only [List.size_toArray,AaX,AaW,Abt,Abp]
      omega
     ·have h47 : es.length + xs.length <= 140737488355328:=by
       have : (es.length + xs.length) * 1 <= (es.length + xs.length) * bytes:=Nat.mul_le_mul_left _ hb1
       omega
      have h63 : es.length + xs.length <= maxLen:=by unfold maxLen; omega
      have hol : (cur.toList.take (es.length * esz)).length = es.length * esz:=by
       have : es.length * esz <= cap * esz:=Abg _ hcap
       simp only [AaW,Abp]; omega
      have hos : Src P w esz es.length (.slice (some ⟨ρ r,0,none⟩) es.length cap) (cur.toList.take (es.length * esz)):=Src.slice' hol rfl fun j u hj=>by
       rw [Nat.zero_add,cell_of_row w _ j cur e _ hh]
       rw [Abx] at hj
       split at hj
       ·simpa using hj
       ·cases hj
      subst hesz; subst hby
      have hrun:=MO (P:=P) (w:=w) (ty:=o.type) h0 h1 ht hu1 hn hi hz hsrc hos (by omega) h63 hbs
      have hcm':=grownCap_le_maxLen w (es.length + xs.length) cap e h63
      have hge:=grownCap_ge w (es.length + xs.length) cap e
      have hnew:=heap_alloc_new w.drew (.cells ((cur.toList.take (es.length * i.size)).toArray ++ news.toArray ++ Builtin.zeroCells z.cells (grownCap w (es.length + xs.length) cap e - (es.length + xs.length))) e)
      have hsize : ((cur.toList.take (es.length * i.size)).toArray ++ news.toArray ++ Builtin.zeroCells z.cells (grownCap w (es.length + xs.length) cap e - (es.length + xs.length))).size = grownCap w (es.length + xs.length) cap e * i.size:=by
       simp only [Array.size_append,List.size_toArray,OZ,hzs,hol,hnl,<- Abm]
       congr 1
       omega
      obtain ⟨hok',hst⟩:=SX (w':=w.drew.alloc _) hok hrow hh hUx hne hcs hcap hnl hr hnr (DC w _) hnew hsize hge hcm' (by
       simp only [Array.toList_append]
       rw [List.take_append_of_le_length (by simp only [AaX,hol,hnl,Abm]; omega),Abc (by simp only [AaX,hol,hnl,Abm]; omega)])
      refine ⟨_,_,_,_,_,_,AH ho hb (fun _=>by rw [hm]; rfl) hrun,.inl rfl,hok',hst,RepX.ofV ?_,fun _ _=>rfl,fun d hd=>.inl ⟨d,hd,rfl⟩⟩
      exact .sl r _ _ 0 _ false e (es ++ xs) base false _ _ (by simp [hrl]) (by omega) (by simp) hge hcm' (fun h=>by cases h) ⟨_,rfl⟩ (fun _ _=>⟨w.heap.size,by simp,.inl (by simp)⟩) (fun _ _ _ _=>⟨by simp,_,(0,0),by simpa using hnew,hsize⟩)
   ·cases he
  ·cases he
theorem Pl {c : Go.Call} {t t1 e : TypeId} {u1 : TypeDesc} {esz bytes : Nat} {zs : List V} (ho : o.op = .call c) (hb : c.callee = .builtin .append) (h0 : c.argTypes[0]? = some t) (h1 : c.argTypes[1]? = some t1) (ht : P.underlying t = some (.slice e)) (hu1 : P.underlying t1 = some u1) (hn : (∃ e',u1 = .slice e') \/ u1 = .string)
  (hz : CM P e = some zs) (hs : Bi P e = some esz) (hby : HW P e = some bytes) (hpos : 1 <= esz) (hb1 : 1 <= bytes) (hok : Ok w S ρ β M) (hv : All2 (RepX w S ρ β M.H) vs (c.args.toList.map a.eval)) (he : Am call M (.app e esz bytes) vs = some (v,M')) :
  Outc w S ρ β M (.l (.app e esz bytes)) v M' ((execOp a.eval o).run P w):=by
 obtain ⟨i,z,hi,hz0,hzs,_⟩:=Cm hz
 obtain ⟨i',hi',hsz⟩:=AB.1 hs
 obtain ⟨i'',hi'',hbz⟩:=Hc.1 hby
 rw [hi] at hi' hi''
 cases hi'; cases hi''
 match vs,he with
 | [s,x],he =>
  obtain ⟨cs,cx,hargs,h,hx⟩:=hv.inv2
  have hm:=Wq hargs
  simp only [Am] at he
  split at he
  ·rename_i l
   refine MP ho hb h0 h1 ht hu1 hn hi hz0 hzs hsz hbz hpos hb1 hok hm h (fun hU=>?_) he
   cases l with
   | nil =>
    obtain ⟨s,rfl,hl⟩:=Dw (RepX.toV rfl hx)
    have h0 : s.size = 0:=by
     have:=congrArg List.length hl
     simpa using this
    have:=Src.string (P:=P) (w:=w) (size:=esz) s
    have hc : Lib.strCells s = []:=Abf (by rw [Lib.strCells_length]; exact h0)
    rw [h0,hc] at this
    exact ⟨[],this,by simp,.nil⟩
   | cons d l =>
    have h1 : esz = 1:=by have:=hU [V.m (.i .u8 (Int.ofNat d))] (by simp); simpa using this.symm
    exact Vb hx esz h1
  ·simp only [AaF] at he
   obtain ⟨xs,hxs,he⟩:=he
   exact MP ho hb h0 h1 ht hu1 hn hi hz0 hzs hsz hbz hpos hb1 hok hm h (fun hU=>KL hok hx hxs esz hU) he
theorem Jp {dT sT ty e : TypeId} {i : TypeInfo} {ts : Array TypeId} (h0 : ts[0]? = some dT) (hu : P.underlying dT = some (.slice e)) (hi : P.info? e = some i) {g o' dLen dCap m : Nat} {x : Value} {cur : Array Value} {T : TypeId} {mk : Nat × Nat} {cs : List Value}
  (hl : Builtin.lenOf x = pure m) (hf : (Builtin.firstCells i.size (Nat.min m dLen) x).run P w = .ok cs.toArray w) (hg : w.heap[g]? = some (.cells cur T mk)) (hw : Win cur.size mk) (hfit : o' + cs.length <= cur.size) (h1 : ∀ v ∈ cs,v.oneCell' = true) :
  (Builtin.copy_ ts ty #[.slice (some ⟨g,o',none⟩) dLen dCap,x]).run P w = .ok (goInt (Nat.min m dLen)) (w.setRow g (cur.toList.take o' ++ cs ++ cur.toList.drop (o' + cs.length)).toArray):=by
 have hst:=Bt P g o' T mk cs 0 cur w hg hw (by simpa using hfit) h1
 simp only [Nat.add_zero] at hst
 simp [Builtin.copy_,h0,run_underlying hu,hl,AA hi,hf,hst]
theorem Im {dT sT ty e : TypeId} {i : TypeInfo} {ts : Array TypeId} (h0 : ts[0]? = some dT) (hu : P.underlying dT = some (.slice e)) (hi : P.info? e = some i) {ad : Option Addr} {dCap m : Nat} {x : Value}
  (hl : Builtin.lenOf x = pure m) (hf : (Builtin.firstCells i.size 0 x).run P w = .ok #[] w) :
  (Builtin.copy_ ts ty #[.slice ad 0 dCap,x]).run P w = .ok (goInt 0) w:=by
 have hm : Nat.min m 0 = 0:=Nat.min_zero m
 cases ad <;> simp [Builtin.copy_,h0,run_underlying hu,hl,AA hi,hf,hm,storeCells]
theorem KP (w : World) (g : Nat) (cur : Array Value) (t : TypeId) (fr : Nat × Nat) (hg : w.heap[g]? = some (.cells cur t fr)) : w.setRow g cur = w:=setRow_self w g cur t fr hg
theorem Vq {c : Go.Call} {t e : TypeId} {esz : Nat} (ho : o.op = .call c) (hb : c.callee = .builtin .copy) (h0 : c.argTypes[0]? = some t) (ht : P.underlying t = some (.slice e)) (hs : Bi P e = some esz)
  (hok : Ok w S ρ β M) (hv : All2 (RepX w S ρ β M.H) vs (c.args.toList.map a.eval)) (he : Am call M (.cpy esz) vs = some (v,M')) :
  Outc w S ρ β M (.l (.cpy esz)) v M' ((execOp a.eval o).run P w):=by
 obtain ⟨i,hi,rfl⟩:=AB.1 hs
 match vs,he with
 | [d,x],he =>
  obtain ⟨cd,cx,hargs,h,hx⟩:=hv.inv2
  have hm:=Wq hargs
  simp only [Am,AaF] at he
  obtain ⟨xs,hxs,he⟩:=he
  split at he
  ·rename_i r ver esz st len lim
   simp only [AaF,AK] at he
   obtain ⟨row,hrow,he⟩:=he
   split at he
   ·rename_i ty esz' es base
    simp only [Ah,AaJ,AaV,AaF,AaG,AaH,AaZ] at he
    obtain ⟨⟨⟨⟨hve,rfl⟩,hsz⟩,hall⟩,H',hH',rfl,rfl⟩:=he
    obtain ⟨hrl,rfl⟩:=BJ hH'
    have hUx : Uni esz xs:=fun q hq=>(hall q hq).1
    obtain ⟨ad,cap,esz1,cells,rfl,hu1,hr1,hc1⟩:=Fg hok hx hxs
    have h':=RepX.toV rfl h
    cases h' with | sl _ _ _ _ _ _ ty2 es2 base2 fz2 adr cap2 hrow2 g1 g2 g3 g4 g5 gn gb ga =>
    rw [hrow] at hrow2
    simp only [AaG,Row.cs.injEq] at hrow2
    obtain ⟨rfl,_,rfl,rfl,rfl⟩:=hrow2
    obtain ⟨hbl,hpos,hU0,_,hns,cur,cap',mk,hh,hmk,hcs,hcap,hcm,hr⟩:=hok.rows r _ hrow
    have hmk:=hmk rfl
    have hU0 : Uni esz es:=hU0
    have hlc : cells.length = xs.length * esz:=by rw [hr1.1,hUx.len]
    generalize hn : Nat.min xs.length len = n
    have hnx : n <= xs.length:=by rw [<- hn]; exact Nat.min_le_left _ _
    have hnl : n <= len:=by rw [<- hn]; exact Nat.min_le_right _ _
    have htk : xs.take len = xs.take n:=by rw [<- hn]; simp [List.take_eq_take_iff]; exact Nat.min_comm _ _
    have hxt : (xs.take n).length = n:=by rw [AaW]; omega
    have hmulx : n * esz <= xs.length * esz:=Abg _ hnx
    have hnews : (cells.take (n * esz)).length = n * esz:=by rw [AaW]; omega
    have hrn : RepL w S ρ M.H (xs.take n).flatten (cells.take (n * esz)):=by rw [DR hUx n]; exact hr1.take _
    have hone : ∀ u,u ∈ cells.take (n * esz) -> u.oneCell' = true:=EC (by
     rw [AaZ]
     intro y hy
     obtain ⟨l,hl,hyl⟩:=List.mem_flatten.1 hy
     exact (hall l (AbZ hl)).2 y hyl) hrn
    have hf : (Builtin.firstCells i.size n (.slice ad xs.length cap)).run P w = .ok (cells.take (n * esz)).toArray w:=by
     by_cases hne : xs = []
     ·have hn0 : n = 0:=by rw [hne] at hnx; simpa using hnx
      subst hn0
      cases ad with
      | none=>simp [Builtin.firstCells]
      | some p=>simp [Builtin.firstCells,loadCells,loadCellsFrom]
     ·obtain ⟨b,off,rfl,hcell,_⟩:=hc1 hne
      refine run_firstCells_some w i.size n _ _ _ _ (by rw [hnews,hsz]) fun j u hj=>?_
      rw [Be]
      rw [Abx] at hj
      split at hj
      ·exact hcell j u hj
      ·cases hj
    have hel : (es.take st ++ xs.take n ++ es.drop (st + n)).length = es.length:=by
     simp only [AaX,AaW,Abt]; omega
    have hfin : ∀ arr : Array Value,arr.toList = cur.toList.take (st * esz) ++ cells.take (n * esz) ++ cur.toList.drop (st * esz + n * esz) -> (Builtin.copy_ c.argTypes o.type #[.slice adr len cap2,.slice ad xs.length cap]).run P w = .ok (goInt n) (w.setRow (ρ r) arr) ->
      Outc w S ρ β M (.l (.cpy i.size)) (.m (.i .i64 (Int.ofNat n))) { M with H:=M.H.set r (.cs ty esz (Qh es st (xs.take len)) es.length false) } ((execOp a.eval o).run P w):=fun arr harr hrun=>by
     rw [htk]
     have hce : Qh es st (xs.take n) = es.take st ++ xs.take n ++ es.drop (st + n):=by unfold Qh; rw [hxt]
     rw [hce]
     have hm1 : st * esz + n * esz <= es.length * esz:=by rw [<- Abm]; exact Abg _ (by omega)
     have hm2 : es.length * esz <= cap' * esz:=Abg _ hcap
     have hasz : arr.size = cur.size:=by
      rw [<- Abp,harr]
      simp only [AaX,AaW,Abt,Abp]
      omega
     obtain ⟨hok',hst⟩:=Pn (arr:=arr) hok hrow hh hmk (((hU0.take st).append (hUx.take n)).append (hU0.drop _)) hel hasz hcs hcap hcm (by
      have:=cut3 cur.toList (cells.take (n * esz)) (st * esz) (es.length * esz) (by rw [hnews]; exact hm1) (by simp; omega)
      rw [hnews] at this
      rw [harr,this,List.flatten_append,List.flatten_append,DR hU0 st,Fc hU0,Abm]
      exact ((hr.take _).append hrn).append (hr.drop _))
     exact ⟨_,_,_,_,_,_,AH ho hb (fun _=>by rw [hm]; rfl) hrun,.inl rfl,hok',hst,RepX.ofV (.m (.i .i64 _)),fun _ _=>rfl,fun k hk=>.inl ⟨k,hk,rfl⟩⟩
    by_cases hl0 : len = 0
    ·subst hl0
     have hn0 : n = 0:=by omega
     subst hn0
     refine hfin cur (by simp) ?_
     rw [KP w (ρ r) cur ty _ hh]
     exact Im (sT:=t) h0 ht hi rfl (by simpa using hf)
    ·obtain ⟨b,rfl,hA⟩:=gb (by omega) (by omega)
     have hbe : b = ρ r:=by
      rcases hA with hA | ⟨_,hne,_⟩
      ·exact hA
      ·exact absurd hve hne
     subst hbe
     have hm1 : st * esz + n * esz <= es.length * esz:=by rw [<- Abm]; exact Abg _ (by omega)
     have hm2 : es.length * esz <= cap' * esz:=Abg _ hcap
     have hrun:=Jp (P:=P) (w:=w) (ty:=o.type) (sT:=t) (dCap:=cap2) (o':=st * esz) h0 ht hi (m:=xs.length) (dLen:=len) (x:=.slice ad xs.length cap) (cs:=cells.take (n * esz)) rfl (by rw [hn]; exact hf) hh hmk (by rw [hnews]; omega) hone
     rw [hn,hnews] at hrun
     exact hfin _ (by simp) hrun
   ·cases he
  ·cases he
end
end Go.Mx
/- Every operation of the machine against the model: the dispatch; calls by a hypothesis. -/
namespace Go.Mx
section
variable {P : Program} {w : World} {S : Nat -> Prop} {ρ β : Nat -> Nat} {M M' : Mem} {H : Hp} {o : Oper} {a : Act} {vs : List V} {v : V} {call : Bp} {hi : Hint} {gl : Nat -> Option (List I)} {rd : Option Nat}
def GlOk (gl : Nat -> Option (List I)) (w : World) (S : Nat -> Prop) : Prop:=∀ g cs,gl g = some cs -> RepI w S (.pt cs) (.pointer (some ⟨g,0,none⟩))
theorem GlOk.step {w' : World} {S' : Nat -> Prop} {ρ' : Nat -> Nat} {H' : Hp} (h : GlOk gl w S) (k : Stp w S ρ β M w' S' ρ' H') : GlOk gl w' S':=fun g cs hg=>k.imm (h g cs hg)
def Ii (P : Program) (f : Nat) : Prop := ∃ fn, P.funcs[f]? = some fn /\ (fn.name == "runtime.NumGoroutine") = false /\ fn.body.isNone = false
def OM (w : World) (S : Nat -> Prop) (ρ β : Nat -> Nat) (M : Mem) (v : V) (H' : Hp) (e : Ending) (w' : World) : Prop :=
 ∃ c S' ρ',e = .returned c /\ Ok w' S' ρ' β ⟨M.B,H'⟩ /\ Stp w S ρ β M w' S' ρ' H' /\ RepV w' S' ρ' H' v c
def Cb (P : Program) (gl : Nat -> Option (List I)) (call : Bp) : Prop:=∀ f vs H v H',call f vs H = some (v,H') ->
 (f ≠ yN -> Ii P f /\ ∀ (w : World) S ρ β B (args : Array Value),Ok w S ρ β ⟨B,H⟩ -> GlOk gl w S -> All2 (RepX w S ρ β H) vs args.toList -> Calls P f args w (OM w S ρ β ⟨B,H⟩ v H')) /\
 (f = yN -> ∃ r xs,vs = .yl r :: xs /\ ∀ (w : World) S ρ β B (args : Array Value),Ok w S ρ β ⟨B,H⟩ -> GlOk gl w S -> All2 (RepX w S ρ β H) xs args.toList -> ∃ rec : Loop,w.heap[ρ r]? = some (.loop rec) /\ args.size = rec.params.size /\
  RoundIn Fence.wide 0 P (ρ r) rec.fn ((rec.params.zip args).foldl (fun tmps (t,a)=>tmps.setIfInBounds t a) rec.tmps) rec.assign rec.body w (OM w S ρ β ⟨B,H⟩ v H'))
abbrev FW (rd : Option Nat) : Fence:={ Fence.wide with round:=rd }
theorem Gj (hnd : ∀ c,o.op ≠ .defer c) : o.semAt (FW rd).round a.eval = execOp a.eval o:=by
 cases rd with
 | none=>rfl
 | some l=>exact Oper.semAt_some l _ _ hnd
theorem Oe {n f : Nat} {args : Array Value} {R : Ending -> World -> Prop} (h : Calls P f args w R) : CallsIn (FW rd) n P f args w R:=(callsIn_wide (n:=n)).2 h
structure Nxt (w : World) (S : Nat -> Prop) (ρ β : Nat -> Nat) (M : Mem) (q : O) (v : V) (M' : Mem) (w' : World) (S' : Nat -> Prop) (ρ' β' : Nat -> Nat) (c : Value) : Prop where
 ok : Ok w' S' ρ' β' M'
 stp : Stp w S ρ β M w' S' ρ' M'.H
 rep : RepX w' S' ρ' β' M'.H v c
 own : ∀ d,dof q ≠ some d -> β' d = β d
 box : ∀ d,(getB M'.B d).isSome -> (∃ q,(getB M.B q).isSome /\ β' d = β q) \/ w.heap.size <= β' d
theorem Outc.wp {q : O} {next : Act -> World -> Prop} {Q : Exit -> Act -> World -> Prop} (h : Outc w S ρ β M q v M' ((execOp a.eval o).run P w))
  (hnd : ∀ c,o.op ≠ .defer c) (hn : ∀ w' S' ρ' β' c,Nxt w S ρ β M q v M' w' S' ρ' β' c -> next (a.put o.dst c) w') : o.wpIn (FW rd) 0 P a w next Q:=by
 obtain ⟨nx,c,w',S',ρ',β',hr,hc,h1,h2,h3,h4,h5⟩:=h
 refine ⟨fun _ _=>AbL,?_⟩
 rw [Gj hnd,hr]
 rcases hc with rfl | ⟨rfl,rfl⟩
 ·exact hn _ _ _ _ _ ⟨h1,h2,h3,h4,h5⟩
 ·exact hn _ _ _ _ _ ⟨h1,h2,h3,h4,h5⟩
theorem Lm {q : O} {next : Act -> World -> Prop} {Q : Exit -> Act -> World -> Prop} {f : Nat} {xs : List V} {args : Array Value} {H' : Hp} (hny : f ≠ yN) (hnd : ∀ c,o.op ≠ .defer c) (hq : dof q = none) (hcall : Cb P gl call) (hok : Ok w S ρ β M) (hG : GlOk gl w S) (hc : call f xs M.H = some (v,H'))
  (hx : All2 (RepX w S ρ β M.H) xs args.toList) (hr : Ii P f -> (execOp a.eval o).run P w = .ok (.enter f args) w)
  (hn : ∀ w' S' ρ' β' c,Nxt w S ρ β M q v { M with H:=H' } w' S' ρ' β' c -> next (a.put o.dst c) w') : o.wpIn (FW rd) 0 P a w next Q:=by
 obtain ⟨hen,hcall⟩:=(hcall f xs M.H v H' hc).1 hny
 refine ⟨fun _ _=>AbL,?_⟩
 rw [Gj hnd,hr hen,Oper.uponIn_enter]
 refine ⟨fun h=>by simp [Fence.wide] at h,(Oe (hcall w S ρ β M.B args hok hG hx)).mono fun e w' h=>?_⟩
 obtain ⟨c,S',ρ',rfl,h1,h2,h3⟩:=h
 exact hn w' S' ρ' β c ⟨h1,h2,RepX.ofV h3,fun _ _=>rfl,fun d hd=>.inl ⟨d,hd,rfl⟩⟩
theorem All2.append {α β : Type} {R : α -> β -> Prop} {l l' : List α} {m m' : List β} (h : All2 R l m) (k : All2 R l' m') : All2 R (l ++ l') (m ++ m'):=by
 induction h with
 | nil=>exact k
 | cons h t ih=>exact .cons h ih
theorem RepL.toAll2 {xs : List V} {cs : List Value} (h : RepL w S ρ H xs cs) : All2 (RepX w S ρ β H) xs cs :=
 All2.ofGet h.1 fun j x hj=>let ⟨c,hc,hr⟩:=h.2 j x hj; ⟨c,hc,RepX.ofV hr⟩
theorem GC {c : Go.Call} {f : Nat} {az : Array Value} {g : Operand} (ho : o.op = .call c) (hc : c.callee = .value g) (hg : a.eval g = .func (.func f) #[] az) (hen : Ii P f) : (execOp a.eval o).run P w = .ok (.enter f (c.args.map a.eval ++ az)) w:=by
 obtain ⟨fn,h1,h2,h3⟩:=hen
 have h2 : ¬ fn.name = "runtime.NumGoroutine" := by simpa using h2
 have h3 : ¬ fn.body = none:=by rintro e; simp [e] at h3
 simp [execOp,ho,resolve,hc,Deferred.ofValue,hg,invoke,callFunc,h1,h2,h3]
theorem Vs {c : Go.Call} {f : Nat} (hny : f ≠ yN) {next : Act -> World -> Prop} {Q : Exit -> Act -> World -> Prop} (ho : o.op = .call c) (hc : c.callee = .value (.func f)) (hcall : Cb P gl call) (hok : Ok w S ρ β M) (hG : GlOk gl w S)
  (hv : All2 (RepX w S ρ β M.H) vs (c.args.toList.map a.eval)) (he : Am call M (.cal f) vs = some (v,M')) (hn : ∀ w' S' ρ' β' x,Nxt w S ρ β M (.l (.cal f)) v M' w' S' ρ' β' x -> next (a.put o.dst x) w') : o.wpIn (FW rd) 0 P a w next Q:=by
 simp only [Am,AaF,AaG,AaH] at he
 obtain ⟨⟨r,H'⟩,hr,rfl,rfl⟩:=he
 exact Lm hny (fun d e=>by rw [ho] at e; cases e) rfl hcall hok hG hr (args:=c.args.map a.eval ++ #[]) (by simpa using hv) (GC ho hc rfl) hn
theorem Vr {c : Go.Call} {g : Operand} {next : Act -> World -> Prop} {Q : Exit -> Act -> World -> Prop} (ho : o.op = .call c) (hc : c.callee = .value g) (hcall : Cb P gl call) (hok : Ok w S ρ β M) (hG : GlOk gl w S)
  (hv : All2 (RepX w S ρ β M.H) vs ((g :: c.args.toList).map a.eval)) (he : Am call M .cav vs = some (v,M')) (hn : ∀ w' S' ρ' β' x,Nxt w S ρ β M (.l .cav) v M' w' S' ρ' β' x -> next (a.put o.dst x) w') : o.wpIn (FW rd) 0 P a w next Q:=by
 match vs,he with
 | x :: xs,he =>
  simp only [Abr] at hv
  generalize hg : a.eval g = cg at hv
  cases hv with | cons h t =>
  simp only [Am] at he
  split at he
  ·rename_i f cap
   simp only [AaF,AaG,AaH] at he
   obtain ⟨⟨r,H'⟩,hr,rfl,rfl⟩:=he
   obtain ⟨hny,cs,rfl,hcs⟩:=(RepX.toV rfl h).fnL
   exact Lm hny (fun d e=>by rw [ho] at e; cases e) rfl hcall hok hG hr (args:=c.args.map a.eval ++ cs) (by simpa using All2.append t (RepL.toAll2 hcs)) (GC ho hc hg) hn
  ·rename_i f cap
   simp only [AaF,AaG,AaH] at he
   obtain ⟨⟨r,H'⟩,hr,rfl,rfl⟩:=he
   have hI:=(RepX.toV rfl h).imm
   cases hI with | fn _ hny _ cs hl ci hci hri =>
   exact Lm hny (fun d e=>by rw [ho] at e; cases e) rfl hcall hok hG hr (args:=c.args.map a.eval ++ cs) (by simpa using All2.append t (RepL.toAll2 (RepL.ofI hl ci hci hri))) (GC ho hc hg) hn
  ·rename_i r
   simp only [AaF,AaG,AaH] at he
   obtain ⟨⟨v',H'⟩,hr,rfl,rfl⟩:=he
   obtain ⟨r',xs',hx,hcall⟩:=(hcall _ _ _ _ _ hr).2 rfl
   cases hx
   obtain ⟨rec,hrec,hsz,hrd⟩:=hcall w S ρ β M.B (c.args.map a.eval) hok hG (by simpa using t)
   have hcg : cg = .func (.yield (ρ r)) #[] #[]:=by
    have h:=RepX.toV rfl h
    cases h; rfl
   subst hcg
   refine ⟨fun _ _=>AbL,?_⟩
   have hy:=run_yield (P:=P) hrec hsz
   have hrun : (execOp a.eval o).run P w = .ok (.round (ρ r) rec.fn ((rec.params.zip (c.args.map a.eval)).foldl (fun tmps (t,a)=>tmps.setIfInBounds t a) rec.tmps) rec.assign rec.body) w:=by
    simp only [execOp,ho,resolve,hc,Deferred.ofValue,hg,invoke,Sem.run_bind,Sem.run_pure,Result.andThen_ok,Array.empty_append]
    exact hy
   rw [Gj (fun d e=>by rw [ho] at e; cases e),hrun,Oper.uponIn_round]
   refine ⟨fun h=>by simp [Fence.wide] at h,RoundIn.mono (F:=FW rd) hrd fun e w' h=>?_⟩
   obtain ⟨c',S',ρ',rfl,h1,h2,h3⟩:=h
   exact hn w' S' ρ' β c' ⟨h1,h2,RepX.ofV h3,fun _ _=>rfl,fun d hd=>.inl ⟨d,hd,rfl⟩⟩
  ·cases he
theorem GJ {b : Bool} {q q' : O} {l l' : List Operand} (h : VQ b q l = some (q',l')) : b = true /\ q = q' /\ l = l':=by
 cases b <;> simp [VQ,gd] at h
 exact ⟨rfl,h.1,h.2⟩
theorem Bl {x : OP} (h : evO call M (.p x) vs = some (v,M')) : Ap x vs = some v /\ M' = M:=by
 simp only [evO,AaF,AaG,AaH] at h
 obtain ⟨u,h,rfl,rfl⟩:=h
 exact ⟨h,rfl⟩
theorem DS {x : OR} (h : evO call M (.r x) vs = some (v,M')) : readX M x vs = some v /\ M' = M:=by
 simp only [evO,AaF,AaG,AaH] at h
 obtain ⟨u,h,rfl,rfl⟩:=h
 exact ⟨h,rfl⟩
theorem ST {x : V} (h : JD x = true) : ∃ l,x = .m (.s l):=by
 unfold JD at h
 split at h
 ·exact ⟨_,rfl⟩
 ·cases h
theorem JV {neg : Bool} {t ty : TypeId} {x y : Operand} {q : O} {az : List Operand} (ho : o.op = .binOp (OQ neg) t x y ty) (hc : Tj P neg t x y = some (q,az)) (hQ : okO q = true) (hok : Ok w S ρ β M) (hv : All2 (RepX w S ρ β M.H) vs (az.map a.eval)) (he : evO call M q vs = some (v,M')) :
  Outc w S ρ β M q v M' ((execOp a.eval o).run P w):=by
 unfold Tj at hc
 split at hc
 ·rename_i hu
  simp only [AaG,AaH] at hc
  obtain ⟨rfl,rfl⟩:=hc
  obtain ⟨h,rfl⟩:=Bl he
  exact Vp ho hu hok hv h
 ·split at hc
  ·rename_i ks hf
   simp only [AaG,AaH] at hc
   obtain ⟨rfl,rfl⟩:=hc
   obtain ⟨h,rfl⟩:=Bl he
   exact Vo ho hf hok hv h
  ·simp only [AaF] at hc
   obtain ⟨k,hk,hc⟩:=hc
   split at hc
   ·rename_i hy
    simp only [AaG,AaH] at hc
    obtain ⟨rfl,rfl⟩:=hc
    obtain ⟨h,rfl⟩:=Bl he
    exact Pj ho hk (.inl ⟨hy,rfl⟩) hok hv h
   ·split at hc
    ·rename_i hx
     simp only [AaG,AaH] at hc
     obtain ⟨rfl,rfl⟩:=hc
     obtain ⟨h,rfl⟩:=Bl he
     exact Pj ho hk (.inr ⟨hx,rfl⟩) hok hv h
    ·cases hc
theorem Ob {b : BinOp} {t ty : TypeId} {x y : Operand} {q : O} {az : List Operand} (ho : o.op = .binOp b t x y ty) (hc : Qk P b t x y = some (q,az)) (hQ : okO q = true) (hok : Ok w S ρ β M) (hv : All2 (RepX w S ρ β M.H) vs (az.map a.eval)) (he : evO call M q vs = some (v,M')) :
  Outc w S ρ β M q v M' ((execOp a.eval o).run P w):=by
 unfold Qk at hc
 split at hc
 ·simp only [AaG,AaH] at hc
  obtain ⟨rfl,rfl⟩:=hc
  obtain ⟨h,rfl⟩:=Bl he
  exact Pk ho hok hv h
 ·simp only [AaG,AaH] at hc
  obtain ⟨rfl,rfl⟩:=hc
  obtain ⟨h,rfl⟩:=Bl he
  exact Pk ho hok hv h
 ·split at hc
  ·exact JV (neg:=false) ho hc hQ hok hv he
  ·exact JV (neg:=true) ho hc hQ hok hv he
  ·cases hc
theorem Pm {z : Nat} {lo hi' mx : Bool} {x : V} (h : Ap (.slc z lo hi' mx) (x :: vs) = some v) : JD x = Nat.beq z 0 :=
 (Uw (Ah.1 (show gd (eqB (JD x) (Nat.beq z 0)) _ = some v from h)).1).symm
theorem VB {t : TypeId} {x : Operand} {lo hi' mx : Option Operand} {q : O} {az : List Operand} (ho : o.op = .slice t x lo hi' mx) (hc : Eh P hi o.dst (.slice t x lo hi' mx) = some (q,az)) (hQ : okO q = true) (hok : Ok w S ρ β M) (hv : All2 (RepX w S ρ β M.H) vs (az.map a.eval)) (he : evO call M q vs = some (v,M')) :
  Outc w S ρ β M q v M' ((execOp a.eval o).run P w):=by
 simp only [Eh,AaF] at hc
 obtain ⟨u,hu,hc⟩:=hc
 split at hc
 ·simp only [AaG,AaH] at hc
  obtain ⟨rfl,rfl⟩:=hc
  obtain ⟨h,rfl⟩:=Bl he
  simp only [Abr] at hv
  cases hv with | cons h1 t1 =>
  have hs : JD _ = true:=Pm h
  obtain ⟨l,rfl⟩:=ST hs
  exact KM ho hu hok h1 t1 h
 ·simp only [AaF,Ah,AaG,AaH,Abv] at hc
  obtain ⟨s,hs,h1s,rfl,rfl⟩:=hc
  obtain ⟨h,rfl⟩:=Bl he
  simp only [Abr] at hv
  cases hv with | cons h1 t1 =>
  obtain ⟨i,hi1,hi2⟩:=AB.1 hs
  have hq : Nat.beq s 0 = JD _:=(Pm h).symm
  refine Vc ho hu hi1 hi2 hok h1 (fun l hl=>?_) t1 h
  subst hl
  have : s = 0:=AaY hq
  omega
 ·simp only [AaF,AaG,AaH] at hc
  obtain ⟨s,hs,rfl,rfl⟩:=hc
  obtain ⟨h,rfl⟩:=DS he
  simp only [Abr] at hv
  cases hv with | cons h1 t1 =>
  exact LN ho (.inl hu) hs hok h1 t1 h
 ·rename_i at'
  split at hc
  ·rename_i hu'
   simp only [AaF,AaG,AaH] at hc
   obtain ⟨s,hs,rfl,rfl⟩:=hc
   obtain ⟨h,rfl⟩:=DS he
   simp only [Abr] at hv
   cases hv with | cons h1 t1 =>
   exact LN ho (.inr ⟨_,hu,hu'⟩) hs hok h1 t1 h
  ·cases hc
 ·cases hc
theorem Tl {c : Go.Call} {q : O} {az : List Operand} {next : Act -> World -> Prop} {Q : Exit -> Act -> World -> Prop} (ho : o.op = .call c) (hc : Eh P hi o.dst (.call c) = some (q,az)) (hQ : okO q = true) (hcall : Cb P gl call) (hok : Ok w S ρ β M) (hG : GlOk gl w S)
  (hv : All2 (RepX w S ρ β M.H) vs (az.map a.eval)) (he : evO call M q vs = some (v,M')) (hn : ∀ w' S' ρ' β' x,Nxt w S ρ β M q v M' w' S' ρ' β' x -> next (a.put o.dst x) w') : o.wpIn (FW rd) 0 P a w next Q:=by
 have hnd : ∀ c,o.op ≠ .defer c:=fun d e=>by rw [ho] at e; cases e
 simp only [Eh] at hc
 split at hc
 ·rename_i f hcv
  split at hc
  ·rename_i g
   simp only [Ah,AaG,AaH] at hc
   obtain ⟨hny,rfl,rfl⟩:=hc
   exact Vs (fun e=>by subst e; simp at hny) ho hcv hcall hok hG hv he hn
  ·simp only [AaG,AaH] at hc
   obtain ⟨rfl,rfl⟩:=hc
   exact Vr ho hcv hcall hok hG hv he hn
 ·cases hc
 ·rename_i b hb
  simp only [AaF] at hc
  obtain ⟨t0,h0,u0,hu0,hc⟩:=hc
  split at hc
  ·split at hc
   ·obtain ⟨_,rfl,rfl⟩:=GJ hc
    obtain ⟨h,rfl⟩:=Bl he
    exact (Pi ho hb h0 hok hv h (fun _=>hu0) (fun e=>by cases e)).wp hnd hn
   ·obtain ⟨_,rfl,rfl⟩:=GJ hc
    obtain ⟨h,rfl⟩:=Bl he
    exact (Pi ho hb h0 hok hv h (fun e=>by cases e) (fun _=>⟨_,hu0⟩)).wp hnd hn
   ·obtain ⟨_,rfl,rfl⟩:=GJ hc
    obtain ⟨h,rfl⟩:=DS he
    cases hQ
   ·cases hc
  ·split at hc
   ·simp only [AaG,AaH] at hc
    obtain ⟨rfl,rfl⟩:=hc
    obtain ⟨h,rfl⟩:=Bl he
    exact (Uk (mx:=false) ho hb hok hv h).wp hnd hn
   ·cases hc
  ·split at hc
   ·simp only [AaG,AaH] at hc
    obtain ⟨rfl,rfl⟩:=hc
    obtain ⟨h,rfl⟩:=Bl he
    exact (Uk (mx:=true) ho hb hok hv h).wp hnd hn
   ·cases hc
  ·split at hc
   ·rename_i e
    simp only [AaF,Ah,AaJ,Abv,AaV] at hc
    obtain ⟨t1,h1,u1,hu1,zs,hz,s,hs,bt,hbt,⟨⟨hs1,hb1⟩,_⟩,hc⟩:=hc
    split at hc
    ·simp only [AaG,AaH] at hc
     obtain ⟨rfl,rfl⟩:=hc
     exact (Pl ho hb h0 h1 hu0 hu1 (.inl ⟨_,rfl⟩) hz hs hbt hs1 hb1 hok hv he).wp hnd hn
    ·split at hc
     ·simp only [AaG,AaH] at hc
      obtain ⟨rfl,rfl⟩:=hc
      exact (Pl ho hb h0 h1 hu0 hu1 (.inr rfl) hz hs hbt hs1 hb1 hok hv he).wp hnd hn
     ·cases hc
    ·cases hc
   ·cases hc
  ·split at hc
   ·rename_i e
    simp only [AaF,Ah,AaJ,Abv,AaV] at hc
    obtain ⟨s,hs,_,t1,h1,u1,hu1,hc⟩:=hc
    split at hc
    ·simp only [AaG,AaH] at hc
     obtain ⟨rfl,rfl⟩:=hc
     exact (Vq ho hb h0 hu0 hs hok hv he).wp hnd hn
    ·cases hc
   ·cases hc
  ·split at hc
   ·rename_i e
    split at hc
    ·rename_i z hz
     simp only [Ah,AaG,AaH] at hc
     obtain ⟨_,rfl,rfl⟩:=hc
     cases hQ
    ·cases hc
   ·cases hc
  ·split at hc
   ·rename_i kt0 e
    simp only [AaF,Ah,AaV,AaG,AaH] at hc
    obtain ⟨kt,hkt,_,rfl,rfl⟩:=hc
    exact (Vh ho hb h0 hu0 hkt hok hv he).wp hnd hn
   ·cases hc
  ·split at hc
   ·obtain ⟨_,rfl,rfl⟩:=GJ hc
    obtain ⟨h,rfl⟩:=Bl he
    cases hQ
   ·cases hc
  ·split at hc
   ·rename_i e
    simp only [AaF] at hc
    obtain ⟨s,hs,hc⟩:=hc
    obtain ⟨hq,rfl,rfl⟩:=GJ hc
    simp only [AaJ,AaV] at hq
    obtain ⟨⟨_,hts⟩,rfl⟩:=hq
    cases hQ
   ·cases hc
  ·cases hc
theorem Ms (h : readX M .ld1 vs = some v) : ∃ r ver ix off ty esz es base fz e,vs = [.pt r ver ix off] /\ nth M.H r = some (.cs ty esz es base fz) /\ Nat.ble base ver = true /\ off < esz /\ nth es ix = some e /\ nth e off = some v:=by
 match vs,h with
 | [a],h =>
  cases a with
  | pt r ver ix off =>
   simp only [readX,AaF] at h
   obtain ⟨row,hrow,h⟩:=h
   cases row with
   | cs ty esz es base fz =>
    simp only [Ah,AaJ,AaF,AbU] at h
    obtain ⟨⟨h1,h2⟩,e,he,hv⟩:=h
    exact ⟨r,ver,ix,off,ty,esz,es,base,fz,e,rfl,hrow,h1,h2,he,hv⟩
   | _=>simp at h
  | _=>simp [readX] at h
 | [],h=>simp [readX] at h
 | _ :: _ :: _,h=>simp [readX] at h
theorem Mr {ag : Bool} {sz : Nat} (h : readX M (.ldb ag sz) vs = some v) : ∃ d off,vs = [.fa d off] /\ readX M (.ld ag sz) [.fa d off] = some v:=by
 match vs,h with
 | [a],h =>
  cases a with
  | fa d off=>exact ⟨d,off,rfl,h⟩
  | _=>simp [readX] at h
 | [],h=>simp [readX] at h
 | _ :: _ :: _,h=>simp [readX] at h
theorem YI {ag : Bool} {sz : Nat} (h : readX M (.ldb ag sz) vs = some v) : readX M (.ld ag sz) vs = some v:=by
 obtain ⟨d,off,rfl,h⟩:=Mr h
 exact h
theorem Mq {d : Nat} {ag : Bool} {sz : Nat} (h : readX M (.ldx d ag sz) vs = some v) : ∃ a,vs = [a] /\ Us d a = false /\ readX M (.ld ag sz) [a] = some v:=by
 match vs,h with
 | [a],h =>
  simp only [readX,Ah,Abi] at h
  exact ⟨a,rfl,h.1,h.2⟩
 | [],h=>simp [readX] at h
 | _ :: _ :: _,h=>simp [readX] at h
theorem YH {d : Nat} {ag : Bool} {sz : Nat} (h : readX M (.ldx d ag sz) vs = some v) : readX M (.ld ag sz) vs = some v:=by
 obtain ⟨a,rfl,_,h⟩:=Mq h
 exact h
theorem YG {d : Nat} {ag : Bool} {sz : Nat} {a : V} (h1 : Us d a = false) (h : readX M (.ld ag sz) [a] = some v) : readX M (.ldx d ag sz) [a] = some v:=by
 simp only [readX,Ah,Abi]
 exact ⟨h1,h⟩
theorem Jk {call : Bp} {d sz : Nat} (h : Am call M (.stb d sz) vs = some (v,M')) : ∃ a x,vs = [a,x] /\ Us d a = true /\ Am call M (.st sz) [a,x] = some (v,M'):=by
 match vs,h with
 | [a,x],h =>
  simp only [Am,Ah] at h
  exact ⟨a,x,rfl,h.1,by simp only [Am]; exact h.2⟩
 | [],h=>simp [Am] at h
 | [_],h=>simp [Am] at h
 | _ :: _ :: _ :: _,h=>simp [Am] at h
theorem Yc {call : Bp} {d sz : Nat} (h : Am call M (.stb d sz) vs = some (v,M')) : Am call M (.st sz) vs = some (v,M'):=by
 obtain ⟨a,x,rfl,_,h⟩:=Jk h
 exact h
theorem Ji {call : Bp} {sz : Nat} (h : Am call M (.str sz) vs = some (v,M')) : ∃ a x,vs = [a,x] /\ AE a = true /\ Am call M (.st sz) [a,x] = some (v,M'):=by
 match vs,h with
 | [a,x],h =>
  simp only [Am,Ah] at h
  exact ⟨a,x,rfl,h.1,by simp only [Am]; exact h.2⟩
 | [],h=>simp [Am] at h
 | [_],h=>simp [Am] at h
 | _ :: _ :: _ :: _,h=>simp [Am] at h
theorem XY {call : Bp} {sz : Nat} (h : Am call M (.str sz) vs = some (v,M')) : Am call M (.st sz) vs = some (v,M'):=by
 obtain ⟨a,x,rfl,_,h⟩:=Ji h
 exact h
theorem YJ (h : readX M .ld1 vs = some v) : readX M (.ld false 1) vs = some v:=by
 obtain ⟨r,ver,ix,off,ty,esz,es,base,fz,e,rfl,hrow,h1,h2,he,hv⟩:=Ms h
 have hm : off % esz = off:=Nat.mod_eq_of_lt h2
 have hd : off / esz = 0:=Nat.div_eq_of_lt h2
 have hle : Nat.ble (off + 1) esz = true:=by rw [Abv]; omega
 have htk : CN 1 (e.drop off) = some [v]:=by
  rw [AK] at hv
  have hlt:=(AaI.1 hv).1
  rw [List.drop_eq_getElem_cons hlt,(AaI.1 hv).2]
  rfl
 simp only [readX,readA,hrow,AaR,h1,hle,Bool.true_or,Bool.and_self,gd,DF,hm,hd,Nat.add_zero,he,htk]
 rfl
theorem VD {s : Nat} (h : Nat.ble 1 s = true) : s ≠ 0:=by rw [Abv] at h; omega
theorem PD {q : O} {az : List Operand} {next : Act -> World -> Prop} {Q : Exit -> Act -> World -> Prop} (hc : Eh P hi o.dst o.op = some (q,az)) (hQ : okO q = true) (hcall : Cb P gl call) (hok : Ok w S ρ β M) (hG : GlOk gl w S)
  (hv : All2 (RepX w S ρ β M.H) vs (az.map a.eval)) (he : evO call M q vs = some (v,M')) (hn : ∀ w' S' ρ' β' x,Nxt w S ρ β M q v M' w' S' ρ' β' x -> next (a.put o.dst x) w') : o.wpIn (FW rd) 0 P a w next Q:=by
 have hnd : ∀ c,o.op ≠ .defer c:=fun d e=>by rw [e] at hc; simp [Eh] at hc
 cases hop : o.op with
 | call c=>rw [hop] at hc; exact Tl hop hc hQ hcall hok hG hv he hn
 | slice t x lo hi' mx=>rw [hop] at hc; exact (VB hop hc hQ hok hv he).wp hnd hn
 | binOp b t x y ty=>rw [hop] at hc; exact (Ob hop hc hQ hok hv he).wp hnd hn
 | move x =>
  simp only [hop,Eh,AaG,AaH] at hc
  obtain ⟨rfl,rfl⟩:=hc
  obtain ⟨h,rfl⟩:=Bl he
  exact (Uj (.inl hop) hok rfl hv h).wp hnd hn
 | assign x =>
  simp only [hop,Eh,AaG,AaH] at hc
  obtain ⟨rfl,rfl⟩:=hc
  obtain ⟨h,rfl⟩:=Bl he
  exact (Uj (.inr hop) hok rfl hv h).wp hnd hn
 | pick c x y =>
  simp only [hop,Eh,AaG,AaH] at hc
  obtain ⟨rfl,rfl⟩:=hc
  obtain ⟨h,rfl⟩:=Bl he
  exact (Sk hop hok hv h).wp hnd hn
 | alloc t =>
  simp only [hop,Eh,AaF] at hc
  obtain ⟨zs,hz,d,hd,hc⟩:=hc
  split at hc
  ·simp only [AaG,AaH] at hc
   obtain ⟨rfl,rfl⟩:=hc
   exact (VA hop hz hok he).wp hnd hn
  ·simp only [AaF,AaG,AaH] at hc
   obtain ⟨s,hs,rfl,rfl⟩:=hc
   exact (Vz hop hz hok he).wp hnd hn
 | box t x =>
  simp only [hop,Eh,AaF] at hc
  obtain ⟨d,hd,hc⟩:=hc
  split at hc
  ·simp only [AaF,AaG,AaH] at hc
   obtain ⟨s,hs,rfl,rfl⟩:=hc
   exact (Vv hop hok hv he).wp hnd hn
  ·simp only [AaF,AaG,AaH] at hc
   obtain ⟨s,hs,rfl,rfl⟩:=hc
   exact (Vu hop hok hv he).wp hnd hn
 | build t ps =>
  simp only [hop,Eh,AaF] at hc
  obtain ⟨zs,hz,u,hu,hc⟩:=hc
  split at hc
  ·simp only [Ah,AaF,AaG,AaH] at hc
   obtain ⟨hall,pl,hpl,rfl,rfl⟩:=hc
   obtain ⟨h,rfl⟩:=Bl he
   exact (Gb hop hz hu hall hpl hok hv h).wp hnd hn
  ·simp only [AaF,AaG,AaH] at hc
   obtain ⟨s,hs,rfl,rfl⟩:=hc
   obtain ⟨h,rfl⟩:=Bl he
   exact (Gz hop hz hu hs hok hv h).wp hnd hn
  ·cases hc
 | buildSlice t n ps =>
  simp only [hop,Eh,AaF] at hc
  obtain ⟨u,hu,hc⟩:=hc
  split at hc
  ·simp only [AaF,Ah,AaJ,Abv] at hc
   obtain ⟨s,hs,⟨hl,h1⟩,zs,hz,d,hd,hc⟩:=hc
   split at hc
   ·simp only [AaG,AaH] at hc
    obtain ⟨rfl,rfl⟩:=hc
    obtain ⟨h,rfl⟩:=Bl he
    exact (Vw hop hu hs hl h1 hz hok hv h).wp hnd hn
   ·simp only [AaG,AaH] at hc
    obtain ⟨rfl,rfl⟩:=hc
    exact (Vx (call:=call) hop hu hs hl h1 hz hok hv he).wp hnd hn
   ·simp only [AaG,AaH] at hc
    obtain ⟨rfl,rfl⟩:=hc
    cases hQ
   ·simp only [AaG,AaH] at hc
    obtain ⟨rfl,rfl⟩:=hc
    cases hQ
  ·cases hc
 | load t x =>
  simp only [hop,Eh,AaF] at hc
  obtain ⟨ag,hag,s,hs,hc⟩:=hc
  split at hc
  ·rename_i h1
   simp only [AaJ,Abi,AaV] at h1
   obtain ⟨⟨rfl,rfl⟩,_⟩:=h1
   simp only [AaG,AaH] at hc
   obtain ⟨rfl,rfl⟩:=hc
   obtain ⟨h,rfl⟩:=DS he
   have key:=LO hop hag hs (.inr rfl) hok hv (YJ h)
   have key : Outc _ _ _ _ _ (.r .ld1) _ _ _:=key
   exact key.wp hnd hn
  ·simp only [Ah,Bool.or_eq_true,AaV,AaG,AaH] at hc
   obtain ⟨h1,hc⟩:=hc
   split at hc
   ·cases hc
    obtain ⟨h,rfl⟩:=DS he
    have key:=LO hop hag hs h1 hok hv (YI h)
    have key : Outc _ _ _ _ _ (.r (.ldb ag s)) _ _ _:=key
    exact key.wp hnd hn
   ·split at hc
    ·cases hc
     obtain ⟨h,rfl⟩:=DS he
     have key:=LO hop hag hs h1 hok hv (YH h)
     have key : Outc _ _ _ _ _ (.r (.ldx ((o.dst.map hi.bs).getD 0 - 100) ag s)) _ _ _:=key
     exact key.wp hnd hn
    ·cases hc
     obtain ⟨h,rfl⟩:=DS he
     exact (LO hop hag hs h1 hok hv h).wp hnd hn
 | store t x y =>
  simp only [hop,Eh] at hc
  split at hc
  ·simp only [AaF] at hc
   obtain ⟨s,hs,hc⟩:=hc
   split at hc
   ·rename_i d9 _
    cases hc
    have key:=Pg hop hs hok hv (Yc he)
    have key : Outc _ _ _ _ _ (.l (.stb d9 s)) _ _ _:=key
    exact key.wp hnd hn
   ·split at hc
    ·cases hc
     have key:=Pg hop hs hok hv (XY he)
     have key : Outc _ _ _ _ _ (.l (.str s)) _ _ _:=key
     exact key.wp hnd hn
    ·cases hc
     exact (Pg hop hs hok hv he).wp hnd hn
  ·cases hc
 | nilCheck x =>
  simp only [hop,Eh,AaG,AaH] at hc
  obtain ⟨rfl,rfl⟩:=hc
  obtain ⟨h,rfl⟩:=Bl he
  exact (Vd hop hok hv h).wp hnd hn
 | unOp u t x =>
  simp only [hop,Eh,AaG,AaH] at hc
  obtain ⟨rfl,rfl⟩:=hc
  obtain ⟨h,rfl⟩:=Bl he
  exact (Yd hop hok hv h).wp hnd hn
 | convert src d x =>
  simp only [hop,Eh,AaF] at hc
  obtain ⟨su,hsu,du,hdu,hc⟩:=hc
  split at hc
  ·simp only [AaG,AaH] at hc
   obtain ⟨rfl,rfl⟩:=hc
   obtain ⟨h,rfl⟩:=Bl he
   exact (Ye hop ⟨_,hsu⟩ hdu hok hv h).wp hnd hn
  ·simp only [AaG,AaH] at hc
   obtain ⟨rfl,rfl⟩:=hc
   obtain ⟨h,rfl⟩:=Bl he
   cases hQ
  ·split at hc
   ·split at hc
    ·simp only [AaG,AaH] at hc
     obtain ⟨rfl,rfl⟩:=hc
     cases hQ
    ·simp only [AaG,AaH] at hc
     obtain ⟨rfl,rfl⟩:=hc
     obtain ⟨h,rfl⟩:=Bl he
     cases hQ
   ·cases hc
  ·split at hc
   ·simp only [AaG,AaH] at hc
    obtain ⟨rfl,rfl⟩:=hc
    obtain ⟨h,rfl⟩:=DS he
    exact (Vy hop hsu (by assumption) hdu hok hv h).wp hnd hn
   ·cases hc
  ·split at hc
   ·simp only [Ah,AaV,AaG,AaH] at hc
    obtain ⟨hsd,rfl,rfl⟩:=hc
    cases hQ
   ·cases hc
  ·cases hc
 | makeFunc fn first cap =>
  simp only [hop,Eh] at hc
  split at hc
  ·split at hc
   ·simp only [Ah,AaG,AaH] at hc
    obtain ⟨hny,rfl,rfl⟩:=hc
    obtain ⟨h,rfl⟩:=Bl he
    exact (Vg (fun e=>by subst e; simp at hny) hop (Array.eq_empty_of_size_eq_zero (by assumption)) hok hv h).wp hnd hn
   ·cases hc
  ·cases hc
 | makeMap t r =>
  simp only [hop,Eh,AaF] at hc
  obtain ⟨u,hu,hc⟩:=hc
  split at hc
  ·simp only [AaG,AaH] at hc
   obtain ⟨rfl,rfl⟩:=hc
   exact (Vf hop hu hok hv he).wp hnd hn
  ·cases hc
 | makeSlice t n c =>
  simp only [hop,Eh,AaF] at hc
  obtain ⟨u,hu,hc⟩:=hc
  split at hc
  ·simp only [AaF,AaG,AaH] at hc
   obtain ⟨zs,hz,s,hs,b,hb,rfl,rfl⟩:=hc
   exact (Ve hop hu hz hs hb hok hv he).wp hnd hn
  ·cases hc
 | fieldAddr t x f =>
  simp only [hop,Eh,AaF] at hc
  obtain ⟨u,hu,hc⟩:=hc
  split at hc
  ·simp only [AaF,Ah,AaG,AaH] at hc
   obtain ⟨fl,hf,s,hs,h1,rfl,rfl⟩:=hc
   obtain ⟨i,hi1,rfl⟩:=AB.1 hs
   obtain ⟨h,rfl⟩:=Bl he
   exact (Vm hop hu hf hi1 (VD h1) hok hv h).wp hnd hn
  ·cases hc
 | field t x f =>
  simp only [hop,Eh,AaF] at hc
  obtain ⟨u,hu,hc⟩:=hc
  split at hc
  ·simp only [AaF,Ah,AaG,AaH,Bool.or_eq_true,AaV] at hc
   obtain ⟨fl,hf,s,hs,ag,hag,h1,rfl,rfl⟩:=hc
   obtain ⟨i,hi1,rfl⟩:=AB.1 hs
   obtain ⟨h,rfl⟩:=Bl he
   cases hQ
  ·cases hc
 | indexAddr t x y =>
  simp only [hop,Eh,AaF] at hc
  obtain ⟨u,hu,hc⟩:=hc
  split at hc
  ·simp only [AaF,AaG,AaH] at hc
   obtain ⟨s,hs,rfl,rfl⟩:=hc
   obtain ⟨i,hi1,rfl⟩:=AB.1 hs
   obtain ⟨h,rfl⟩:=Bl he
   exact (Vl hop hu hi1 hok hv h).wp hnd hn
  ·simp only [AaF,AaG,AaH] at hc
   obtain ⟨s,hs,rfl,rfl⟩:=hc
   obtain ⟨i,hi1,rfl⟩:=AB.1 hs
   obtain ⟨h,rfl⟩:=Bl he
   exact (Sl hop hu hi1 hok hv h).wp hnd hn
  ·cases hc
 | index t x y =>
  simp only [hop,Eh,AaF] at hc
  obtain ⟨u,hu,hc⟩:=hc
  split at hc
  ·simp only [AaG,AaH] at hc
   obtain ⟨rfl,rfl⟩:=hc
   obtain ⟨h,rfl⟩:=Bl he
   exact (Vk hop hu hok hv h).wp hnd hn
  ·simp only [AaF,Ah,AaG,AaH,Bool.or_eq_true,AaV] at hc
   obtain ⟨s,hs,ag,hag,h1,rfl,rfl⟩:=hc
   obtain ⟨i,hi1,rfl⟩:=AB.1 hs
   obtain ⟨h,rfl⟩:=Bl he
   exact (Vj hop hu hi1 hag h1 hok hv h).wp hnd hn
  ·cases hc
 | lookup t x y ok =>
  simp only [hop,Eh,AaF] at hc
  obtain ⟨u,hu,hc⟩:=hc
  split at hc
  ·simp only [AaF,Ah,AaG,AaH] at hc
   obtain ⟨zs,hz,ag,hag,hg,kt,hkt,rfl,rfl⟩:=hc
   obtain ⟨h,rfl⟩:=DS he
   exact (Vi hop hu hz hg hkt hok hv h).wp hnd hn
  ·cases hc
 | mapUpdate t m k x =>
  simp only [hop,Eh] at hc
  split at hc
  ·simp only [AaF] at hc
   obtain ⟨u,hu,hc⟩:=hc
   split at hc
   ·simp only [AaF,AaG,AaH] at hc
    obtain ⟨kt,hkt,rfl,rfl⟩:=hc
    exact (Ph (.inl hop) hu hkt hok hv he).wp hnd hn
   ·cases hc
  ·cases hc
 | insert t m k x =>
  simp only [hop,Eh] at hc
  split at hc
  ·simp only [AaF] at hc
   obtain ⟨u,hu,hc⟩:=hc
   split at hc
   ·simp only [AaF,AaG,AaH] at hc
    obtain ⟨kt,hkt,rfl,rfl⟩:=hc
    exact (Ph (.inr hop) hu hkt hok hv he).wp hnd hn
   ·cases hc
  ·cases hc
 | extract x j =>
  simp only [hop,Eh,AaG,AaH] at hc
  obtain ⟨rfl,rfl⟩:=hc
  obtain ⟨h,rfl⟩:=Bl he
  exact (Vn hop hok hv h).wp hnd hn
 | _=>simp [hop,Eh] at hc
end
end Go.Mx
/- The state of the machine against a frame's slots; a list of operations. -/
namespace Go.Mx
section
variable {P : Program} {w w' w1 w2 : World} {S S' S1 S2 : Nat -> Prop} {ρ β ρ' β' ρ1 β1 ρ2 β2 : Nat -> Nat} {M M' M1 M2 : Mem} {H H2 : Hp} {o : Oper} {a : Act} {vs : List V} {v : V} {call : Bp} {hi : Hint} {gl : Nat -> Option (List I)} {nt : Nat} {s s' : St} {ds : List Deferred} {rd : Option Nat}
theorem DQ (e : Env) (n : Nat) (x : V) (m : Nat) : BA (BT e n x) m = if m = n then some x else BA e m:=by
 induction e with
 | nil =>
  simp only [BT,BA]
  by_cases h : m = n
  ·subst h; simp
  ·rw [AaL h,UA (fun e=>h e.symm)]
 | cons p r ih =>
  obtain ⟨k,y⟩:=p
  simp only [BT]
  cases hb : Nat.blt n k with
  | true =>
   simp only [BA]
   by_cases h : m = n
   ·subst h; simp
   ·rw [AaL h,UA (fun e=>h e.symm)]
  | false =>
   cases hq : Nat.beq k n with
   | true =>
    have:=AaY hq
    subst this
    simp only [BA]
    by_cases h : m = k
    ·subst h; simp
    ·rw [AaL h,UA (fun e=>h e.symm)]
   | false =>
    simp only [BA]
    by_cases h : m = n
    ·subst h
     rw [hq,ih]
    ·cases hk : Nat.beq k m with
     | true=>rw [AaL h]
     | false=>exact ih
theorem Ip {d : Nat} : ∀ {e : Env},BU d e = true -> ∀ n k off,BA e n = some (.fa k off) -> k ≠ d
 | [],_,n,k,off,hg=>by simp [BA] at hg
 | (j,x) :: r,h,n,k,off,hg=>by
  have hr : BU d r = true /\ ∀ k off,x = .fa k off -> k ≠ d:=by
   cases x with
   | fa k off =>
    simp only [BU,AaJ,Abi] at h
    refine ⟨h.2,fun k' off' e=>?_⟩
    cases e
    rintro rfl
    simp at h
   | _=>exact ⟨h,fun k off e=>by cases e⟩
  simp only [BA] at hg
  split at hg
  ·exact hr.2 k off (Option.some.inj hg)
  ·exact Ip hr.1 n k off hg
structure Inv (hi : Hint) (nt : Nat) (ds : List Deferred) (w : World) (S : Nat -> Prop) (ρ β : Nat -> Nat) (s : St) (a : Act) : Prop where
 sz : a.tmps.size = nt
 df : a.defers = ds
 ok : Ok w S ρ β s.M
 env : ∀ n v,BA s.E n = some v -> hi.loc n = false /\ RepX w S ρ β s.M.H v (a.tmps.getD n undef) /\ ∀ d off,v = .fa d off -> n = d
 loc : ∀ n v,BA s.L n = some v -> hi.loc n = true /\ RepX w S ρ β s.M.H v (a.tmps.getD n undef)
theorem Qd {x : Operand} {q : Opnd} (h : Inv hi nt ds w S ρ β s a) (hG : GlOk gl w S) (hc : OS hi gl x = some q) (he : evA s q = some v) : RepX w S ρ β s.M.H v (a.eval x):=by
 cases x with
 | tmp t =>
  simp only [OS,AaG] at hc
  subst hc
  split at he
  ·exact (h.loc _ _ he).2
  ·exact (h.env _ _ he).2.1
 | const c =>
  simp only [OS,AaF,AaG] at hc
  obtain ⟨y,hy,rfl⟩:=hc
  simp only [evA,AaG] at he
  subst he
  exact RepX.ofV (Pd hy)
 | func f =>
  simp only [OS,Ah,AaG] at hc
  obtain ⟨hny,rfl⟩:=hc
  simp only [evA,AaG] at he
  subst he
  exact RepX.ofV (.m (.fn f (fun e=>by subst e; simp at hny) [] #[] rfl (fun _=>undef) (by simp) (by simp)))
 | global g =>
  simp only [OS,AaF,AaG] at hc
  obtain ⟨cs,hcs,rfl⟩:=hc
  simp only [evA,AaG] at he
  subst he
  exact RepX.ofV (.m (hG g cs hcs))
theorem Gn (h : Inv hi nt ds w S ρ β s a) (hG : GlOk gl w S) : ∀ {az : List Operand} {qs : List Opnd} {vs : List V},Ai (OS hi gl) az = some qs -> Ai (evA s) qs = some vs -> All2 (RepX w S ρ β s.M.H) vs (az.map a.eval)
 | [],qs,vs,h1,h2=>by
  simp only [Ai,AaG] at h1
  subst h1
  simp only [Ai,AaG] at h2
  subst h2
  exact .nil
 | x :: az,qs,vs,h1,h2=>by
  simp only [Ai,AaF,AaG] at h1
  obtain ⟨q,hq,l,hl,rfl⟩:=h1
  simp only [Ai,AaF,AaG] at h2
  obtain ⟨v,hv,l',hl',rfl⟩:=h2
  exact .cons (Qd h hG hq hv) (Gn h hG hl hl')
theorem Sm {d : Nat} (h : Inv hi nt ds w S ρ β s a) (he : evA s (match hi.loc d with | true=>.l d | false=>.v d) = some v) : RepX w S ρ β s.M.H v (a.tmps.getD d undef):=by
 split at he
 ·exact (h.loc _ _ he).2
 ·exact (h.env _ _ he).2.1
theorem GR {ops : Array Oper} {g : Option (Opnd × Bool)} {b : Bool} (h : Inv hi nt ds w S ρ β s a) (hc : XL hi ops o.guard = some g) (he : Ay s g = some b) : Region.wanted o (yielded ops a.tmps) = b:=by
 unfold Region.wanted
 cases hg : o.guard with
 | none =>
  rw [hg] at hc
  simp only [XL,AaG] at hc
  subst hc
  simp only [Ay,AaG] at he
  exact he
 | some p =>
  obtain ⟨j,want⟩:=p
  rw [hg] at hc
  simp only [XL,AaF,AaG] at hc
  obtain ⟨oj,hoj,d,hd,rfl⟩:=hc
  simp only [Ay,AaF] at he
  obtain ⟨v,hv,he⟩:=he
  have hr:=Sm h hv
  have hb : (ops[j]?).bind (·.dst) = some d:=by rw [hoj]; exact hd
  simp only [yielded,hb,AaR]
  split at he
  ·rename_i x
   simp only [AaG] at he
   have hx:=BH (RepX.toV rfl hr)
   have : a.tmps[d]? = some (.bool x):=by
    cases ht : a.tmps[d]? with
    | none=>simp [ht,undef] at hx
    | some y=>simp [ht] at hx; rw [hx]
   rw [this]
   simpa using he
  ·simp only [AaG] at he
   have hu : a.tmps.getD d undef = undef:=by
    have:=RepX.toV rfl hr
    generalize a.tmps.getD d undef = c at this
    cases this
    rfl
   have : ∀ x,a.tmps[d]? ≠ some (.bool x):=fun x ht=>by simp [ht,undef] at hu
   subst he
   cases ht : a.tmps[d]? with
   | none=>rfl
   | some y=>cases y <;> first | rfl | exact absurd ht (this _)
  ·cases he
theorem RepX.step {x : V} {c : Value} (h : RepX w S ρ β M.H x c) (k : Stp w S ρ β M w' S' ρ' H2) (hb : ∀ d off,x = .fa d off -> β' d = β d) : RepX w' S' ρ' β' H2 x c:=by
 cases x with
 | fa d off=>simp only [RepX] at h ⊢; rw [hb d off rfl]; exact h
 | _=>exact k.vals _ _ h
theorem BB {a : Act} {n m : Nat} {c : Value} (hn : n < a.tmps.size) : (a.put (some n) c).tmps.getD m undef = if m = n then c else a.tmps.getD m undef:=by
 by_cases h : m = n
 ·subst h
  simp [Act.put,hn]
 ·rw [AaL h]
  simp [Act.put,Array.getElem?_setIfInBounds_ne (Ne.symm h)]
theorem Qg {q : O} {D : Dst} {az : List Opnd} {g : Option (Opnd × Bool)} (h : KF nt ⟨D,q,az,g⟩ = true) {d : Nat} (hd : dof q = some d) : isD d D = true:=by
 simp only [KF,AaJ] at h
 unfold dof at hd
 split at hd
 ·cases hd; exact h.2
 ·cases hd; exact h.2
 ·cases hd
theorem Tb {q : O} {d : Nat} (h : AW s q = true) (hd : dof q = some d) : BU d s.L = true:=by
 unfold dof at hd
 split at hd
 ·cases hd; exact h
 ·cases hd; exact h
 ·cases hd
theorem Inv.step {q : O} {D : Dst} {az : List Opnd} {g : Option (Opnd × Bool)} {c : Value} (h : Inv hi nt ds w S ρ β s a) (hD : Uy hi o.dst = D) (hwf : KF nt ⟨D,q,az,g⟩ = true) (hfr : AW s q = true) (hn : Nxt w S ρ β s.M q v M' w' S' ρ' β' c)
  (hs : CB { s with M:=M' } D v = some s') : Inv hi nt ds w' S' ρ' β' s' (a.put o.dst c) /\ s'.M = M':=by
 have hL : ∀ n v,BA s.L n = some v -> ∀ d off,v = .fa d off -> β' d = β d:=fun n v hg d off e=>hn.own d fun hd=>Ip (Tb hfr hd) n d off (e ▸ hg) rfl
 cases hdst : o.dst with
 | none =>
  rw [hdst] at hD
  simp only [Uy] at hD
  subst hD
  simp only [CB,AaG] at hs
  subst hs
  refine ⟨⟨h.sz,h.df,hn.ok,fun n v hg=>?_,fun n v hg=>?_⟩,rfl⟩
  ·obtain ⟨h1,h2,h3⟩:=h.env n v hg
   exact ⟨h1,h2.step hn.stp fun d off _=>hn.own d fun hd=>(by have:=Qg hwf hd; simp [isD] at this),h3⟩
  ·obtain ⟨h1,h2⟩:=h.loc n v hg
   exact ⟨h1,h2.step hn.stp (hL n v hg)⟩
 | some k =>
  rw [hdst] at hD
  simp only [Uy] at hD
  have hk : k < a.tmps.size:=by
   rw [h.sz]
   simp only [KF,AaJ] at hwf
   have:=hwf.1
   cases hl : hi.loc k <;> rw [hl] at hD <;> subst hD <;> simpa [AbU] using this
  have hdk : ∀ d,dof q = some d -> d = k:=fun d hd=>by
   have:=Qg hwf hd
   cases hl : hi.loc k <;> rw [hl] at hD <;> subst hD <;> exact AaY this
  have hdf : (a.put (some k) c).defers = ds:=h.df
  have hsz : (a.put (some k) c).tmps.size = nt:=by simp [Act.put,h.sz]
  cases hl : hi.loc k with
  | true =>
   rw [hl] at hD
   simp only at hD
   subst hD
   simp only [CB,AaG] at hs
   subst hs
   refine ⟨⟨hsz,hdf,hn.ok,fun n u hg=>?_,fun n u hg=>?_⟩,rfl⟩
   ·obtain ⟨h1,h2,h3⟩:=h.env n u hg
    have hne : n ≠ k:=fun e=>by rw [e,hl] at h1; cases h1
    rw [BB hk,AaL hne]
    exact ⟨h1,h2.step hn.stp fun d off e=>hn.own d fun hd=>hne (by rw [h3 d off e,hdk d hd]),h3⟩
   ·simp only [DQ] at hg
    rw [BB hk]
    by_cases e : n = k
    ·rw [AaN e] at hg ⊢
     cases hg
     exact ⟨by rw [e]; exact hl,hn.rep⟩
    ·rw [AaL e] at hg ⊢
     obtain ⟨h1,h2⟩:=h.loc n u hg
     exact ⟨h1,h2.step hn.stp (hL n u hg)⟩
  | false =>
   rw [hl] at hD
   simp only at hD
   subst hD
   simp only [CB,Ah,AaG] at hs
   obtain ⟨hok,rfl⟩:=hs
   refine ⟨⟨hsz,hdf,hn.ok,fun n u hg=>?_,fun n u hg=>?_⟩,rfl⟩
   ·simp only [DQ] at hg
    rw [BB hk]
    by_cases e : n = k
    ·rw [AaN e] at hg ⊢
     cases hg
     refine ⟨by rw [e]; exact hl,hn.rep,fun d off e'=>?_⟩
     subst e'
     simp only [EW,AaJ] at hok
     rw [e,AaY hok.1]
    ·rw [AaL e] at hg ⊢
     obtain ⟨h1,h2,h3⟩:=h.env n u hg
     exact ⟨h1,h2.step hn.stp fun d off e'=>hn.own d fun hd=>e (by rw [h3 d off e',hdk d hd]),h3⟩
   ·obtain ⟨h1,h2⟩:=h.loc n u hg
    have hne : n ≠ k:=fun e=>by rw [e,hl] at h1; cases h1
    rw [BB hk,AaL hne]
    exact ⟨h1,h2.step hn.stp (hL n u hg)⟩
def Bx (w : World) (β : Nat -> Nat) (B : List (Nat × List V)) (β' : Nat -> Nat) (B' : List (Nat × List V)) : Prop:=∀ d,(getB B' d).isSome -> (∃ q,(getB B q).isSome /\ β' d = β q) \/ w.heap.size <= β' d
theorem Bx.refl {B : List (Nat × List V)} : Bx w β B β B:=fun d hd=>.inl ⟨d,hd,rfl⟩
theorem Bx.trans {B B1 B2 : List (Nat × List V)} (h : Bx w β B β1 B1) (hs : w.heap.size <= w1.heap.size) (k : Bx w1 β1 B1 β2 B2) : Bx w β B β2 B2:=fun d hd=>by
 rcases k d hd with ⟨q,hq,e⟩ | e
 ·rw [e]
  exact h q hq
 ·exact .inr (AbF hs e)
def Gh (P : Program) (hi : Hint) (gl : Nat -> Option (List I)) (nt : Nat) (ops : Array Oper) (i : Nat) (q : Op) : Prop:=∃ o,ops[i]? = some o /\ Oa P hi gl ops o = some q /\ KF nt q = true
theorem Qb {ops : Array Oper} {Q : Exit -> Act -> World -> Prop} (hcall : Cb P gl call) : ∀ (l : List Nat) (qs : List Op),All2 (Gh P hi gl nt ops) l qs -> ∀ (s s' : St) (a : Act) (w : World) (S : Nat -> Prop) (ρ β : Nat -> Nat),Bc call qs s = some s' -> Inv hi nt ds w S ρ β s a -> GlOk gl w S ->
  (∀ a' w' S' ρ' β',Inv hi nt ds w' S' ρ' β' s' a' -> Stp w S ρ β s.M w' S' ρ' s'.M.H -> Bx w β s.M.B β' s'.M.B -> Q .normal a' w') -> wpOpsIn (FW rd) 0 P ops Q l a w:=by
 intro l qs hl
 induction hl with
 | nil =>
  intro s s' a w S ρ β he hI hG hQ
  simp only [Bc,AaG] at he
  subst he
  exact hQ a w S ρ β hI (Stp.refl _ _ _ _ _) Bx.refl
 | @cons i q l qs hq hl ih =>
  intro s s' a w S ρ β he hI hG hQ
  obtain ⟨o,ho,hc,hwf⟩:=hq
  obtain ⟨g,qo,os,hg,rfl,hco⟩:=FK hc
  simp only [Bc,DD,AaF] at he
  obtain ⟨s1,⟨b,hb,he1⟩,he2⟩:=he
  have hwant:=GR hI hg hb
  simp only [wpOpsIn,ho,hwant]
  have tail : ∀ {a1 : Act} {w1 : World} {S1 : Nat -> Prop} {ρ1 β1 : Nat -> Nat},Inv hi nt ds w1 S1 ρ1 β1 s1 a1 -> Stp w S ρ β s.M w1 S1 ρ1 s1.M.H -> Bx w β s.M.B β1 s1.M.B -> wpOpsIn (FW rd) 0 P ops Q l a1 w1:=fun {a1 w1 S1 ρ1 β1} hI1 hst hbx =>
   ih s1 s' a1 w1 S1 ρ1 β1 he2 hI1 (hG.step hst) fun a' w' S' ρ' β' h1 h2 h3=>hQ a' w' S' ρ' β' h1 (hst.trans hbx h2) (hbx.trans hst.size h3)
  cases b with
  | true =>
   simp only [Ah,AaF] at he1
   obtain ⟨hfr,vs,hvs,⟨v,M'⟩,hev,hset⟩:=he1
   simp only [if_true]
   rcases hco with ⟨az,hco,hQ,hos⟩ | ⟨rfl,rfl⟩
   case inr=>simp [Ai] at hvs; subst hvs; simp [evO,Ap] at hev
   refine (PD hco hQ hcall hI.ok hG (Gn hI hG hos hvs) hev fun w' S' ρ' β' c hn=>?_)
   obtain ⟨h1,h2⟩:=hI.step rfl hwf hfr hn hset
   exact tail h1 (by rw [h2]; exact hn.stp) (by rw [h2]; exact hn.box)
  | false =>
   simp only [AbO,if_false]
   have hn : Nxt w S ρ β s.M (.p .mv) .un s.M w S ρ β undef:=⟨hI.ok,Stp.refl _ _ _ _ _,.un,fun _ _=>rfl,fun d hd=>.inl ⟨d,hd,rfl⟩⟩
   have hwf' : KF nt ⟨Uy hi o.dst,.p .mv,[],none⟩ = true:=by
    simp only [KF,AaJ] at hwf ⊢
    exact ⟨hwf.1,AbL⟩
   obtain ⟨h1,h2⟩:=hI.step rfl hwf' rfl hn he1
   exact ⟨fun _ _=>AbL,tail h1 (by rw [h2]; exact Stp.refl _ _ _ _ _) (by rw [h2]; exact Bx.refl)⟩
end
end Go.Mx
