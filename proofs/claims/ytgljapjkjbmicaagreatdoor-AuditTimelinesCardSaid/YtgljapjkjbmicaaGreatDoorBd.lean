/- Soundness of the machine, part 4; primitives. Nothing here speaks of a program. -/
import Derived.Test.YtgljapjkjbmicaaGreatDoorBc
import Derived.LoopNIn
import Derived.LoopN
import Derived.Lib.Bytealg
set_option linter.unusedSimpArgs false
set_option linter.unusedVariables false
set_option linter.unusedSectionVars false
/- Operations that may change places: what a quiet operation and a row's making are; the swap. Nothing here speaks of a program. -/
namespace Go.Mx
section
variable {M M' M1 M2 : Mem} {H H' H2 : Hp} {vs : List V} {v v1 v2 : V} {call : Bp} {s s1 s2 : St} {sh : Nat -> Bool}
inductive SameR : Row -> Row -> Prop where
 | cs (ty esz : Nat) (es : List (List V)) (base : Nat) (fz fz' : Bool) : SameR (.cs ty esz es base fz) (.cs ty esz es base fz')
 | mp (es : List (I × V)) (fz fz' : Bool) : SameR (.mp es fz) (.mp es fz')
 | lp (st : Nat) (pd : Option (Option Nat)) (E : List (Nat × V)) (ps : List Nat) (ca cb : C) : SameR (.lp st pd E ps ca cb) (.lp st pd E ps ca cb)
theorem SameR.refl (r : Row) : SameR r r:=by cases r; exact .cs _ _ _ _ _ _; exact .mp _ _ _; exact .lp _ _ _ _ _ _
theorem SameR.symm {r r' : Row} (h : SameR r r') : SameR r' r:=by cases h; exact .cs _ _ _ _ _ _; exact .mp _ _ _; exact .lp _ _ _ _ _ _
def Le (H K : Hp) : Prop:=∀ (r : Nat) row,H[r]? = some row -> ∃ row',K[r]? = some row' /\ SameR row row'
theorem Le.nth {K : Hp} (h : Le H K) {r : Nat} {row : Row} (hr : nth H r = some row) : ∃ row',nth K r = some row' /\ SameR row row':=by
 rw [AK] at hr
 obtain ⟨row',h1,h2⟩:=h r row hr
 exact ⟨row',by rw [AK]; exact h1,h2⟩
theorem Le.apps (H rows : Hp) : Le H (H ++ rows):=fun r x h=>⟨x,by rw [Aba (AaI.1 h).1]; exact h,.refl _⟩
theorem Le.elems {K : Hp} (h : Le H K) {x : V} {es : List (List V)} (he : Mx.elems H x = some es) : Mx.elems K x = some es:=by
 unfold Mx.elems at he ⊢
 split at he
 ·exact he
 ·exact he
 ·exact he
 ·simp only [AaF] at he ⊢
  obtain ⟨row,hrow,he⟩:=he
  obtain ⟨row',h1,h2⟩:=h.nth hrow
  refine ⟨row',h1,?_⟩
  cases h2 <;> exact he
 ·cases he
theorem Le.mapOf {K : Hp} (h : Le H K) {x : V} {es : List (I × V)} (he : Mx.mapOf H x = some es) : Mx.mapOf K x = some es:=by
 unfold Mx.mapOf at he ⊢
 split at he
 ·exact he
 ·exact he
 ·simp only [AaF] at he ⊢
  obtain ⟨row,hrow,he⟩:=he
  obtain ⟨row',h1,h2⟩:=h.nth hrow
  refine ⟨row',h1,?_⟩
  cases h2 <;> exact he
 ·cases he
theorem Le.readA {B : List (Nat × List V)} {K : Hp} (h : Le H K) {n : Nat} {x : V} {cs : List V} (he : Mx.readA ⟨B,H⟩ n x = some cs) : Mx.readA ⟨B,K⟩ n x = some cs:=by
 unfold Mx.readA at he ⊢
 split at he
 ·exact he
 ·simp only [AaF] at he ⊢
  obtain ⟨row,hrow,he⟩:=he
  obtain ⟨row',h1,h2⟩:=h.nth hrow
  refine ⟨row',h1,?_⟩
  cases h2 <;> exact he
 ·exact he
 ·cases he
theorem Bq {α β : Type} {f g : α -> Option β} : ∀ {l : List α} {m : List β},(∀ x y,f x = some y -> g x = some y) -> Ai f l = some m -> Ai g l = some m
 | [],m,_,h=>h
 | x :: l,m,hfg,h=>by
  simp only [Ai,AaF,AaG] at h ⊢
  obtain ⟨y,hy,m',hm,rfl⟩:=h
  exact ⟨y,hfg _ _ hy,m',Bq hfg hm,rfl⟩
theorem Le.view {K : Hp} (h : Le H K) : ∀ (n : Nat) (x : V) (i : I),Mx.view n H x = some i -> Mx.view n K x = some i
 | 0,x,i,he=>by simp [Mx.view] at he
 | n + 1,x,i,he=>by
  have ih:=fun x i=>Le.view h n x i
  unfold Mx.view at he ⊢
  cases x with
  | m x=>exact he
  | ls es=>exact he
  | sl r ver esz st len lim =>
   simp only [AaF] at he ⊢
   obtain ⟨es,h1,l,h2,he⟩:=he
   exact ⟨es,h.elems h1,l,Bq (fun x y=>Bq fun x y=>ih x y) h2,he⟩
  | pt r ver ix off =>
   simp only [AaF] at he ⊢
   obtain ⟨row,hrow,he⟩:=he
   obtain ⟨row',h1,h2⟩:=h.nth hrow
   refine ⟨row',h1,?_⟩
   cases h2 with
   | cs ty esz es base fz fz' =>
    simp only [AaF] at he ⊢
    obtain ⟨cs,hcs,l,hl,he⟩:=he
    exact ⟨cs,h.readA hcs,l,Bq (fun x y=>ih x y) hl,he⟩
   | mp es fz fz'=>exact he
   | lp st pd E ps ca cb=>exact he
  | mp r =>
   simp only [AaF] at he ⊢
   obtain ⟨row,hrow,he⟩:=he
   obtain ⟨row',h1,h2⟩:=h.nth hrow
   refine ⟨row',h1,?_⟩
   cases h2 with
   | cs ty esz es base fz fz'=>exact he
   | mp es fz fz' =>
    simp only [AaF] at he ⊢
    obtain ⟨l,hl,he⟩:=he
    refine ⟨l,Bq (fun p y hp=>?_) hl,he⟩
    simp only [AaF] at hp ⊢
    obtain ⟨x,hx,hp⟩:=hp
    exact ⟨x,ih _ _ hx,hp⟩
   | lp st pd E ps ca cb=>exact he
  | fn f cap =>
   simp only [AaF] at he ⊢
   obtain ⟨l,hl,he⟩:=he
   exact ⟨l,Bq (fun x y=>ih x y) hl,he⟩
  | ag cs =>
   simp only [AaF] at he ⊢
   obtain ⟨l,hl,he⟩:=he
   exact ⟨l,Bq (fun x y=>ih x y) hl,he⟩
  | _=>exact he
theorem Le.readX {B : List (Nat × List V)} {K : Hp} (h : Le H K) {o : OR} (he : Mx.readX ⟨B,H⟩ o vs = some v) : Mx.readX ⟨B,K⟩ o vs = some v:=by
 unfold Mx.readX at he ⊢
 split at he
 ·simp only [AaF] at he ⊢
  obtain ⟨cs,h1,h2⟩:=he
  exact ⟨cs,h.readA h1,h2⟩
 ·simp only [AaF] at he ⊢
  obtain ⟨cs,h1,h2⟩:=he
  exact ⟨cs,h.mapOf h1,h2⟩
 ·simp only [AaF] at he ⊢
  obtain ⟨cs,h1,h2⟩:=he
  exact ⟨cs,h.mapOf h1,h2⟩
 ·split at he
  ·exact he
  ·simp only [AaF] at he ⊢
   obtain ⟨row,hrow,he⟩:=he
   obtain ⟨row',h1,h2⟩:=h.nth hrow
   refine ⟨row',h1,?_⟩
   cases h2 <;> exact he
  ·simp only [AaF] at he ⊢
   obtain ⟨row,hrow,he⟩:=he
   obtain ⟨row',h1,h2⟩:=h.nth hrow
   refine ⟨row',h1,?_⟩
   cases h2 <;> exact he
  ·cases he
 ·split at he
  ·simp only [AaF] at he ⊢
   obtain ⟨row,hrow,he⟩:=he
   obtain ⟨row',h1,h2⟩:=h.nth hrow
   refine ⟨row',h1,?_⟩
   cases h2 <;> exact he
  ·cases he
 ·split at he
  ·simp only [AaF] at he ⊢
   obtain ⟨cs,h1,h2⟩:=he
   exact ⟨cs,h.readA h1,h2⟩
  ·cases he
 ·simp only [Ah,AaF] at he ⊢
  obtain ⟨h0,cs,h1,h2⟩:=he
  exact ⟨h0,cs,h.readA h1,h2⟩
 ·simp only [AaF] at he ⊢
  obtain ⟨cs,h1,h2⟩:=he
  exact ⟨cs,h.elems h1,h2⟩
 ·cases he
/- Freezing, row by row. -/
def frz : Row -> Row
 | .cs ty esz es base _=>.cs ty esz es base true
 | .mp es _=>.mp es true
 | .lp st pd E ps ca cb=>.lp st pd E ps ca cb
theorem My (r : Row) : SameR r (frz r):=by cases r; exact .cs _ _ _ _ _ _; exact .mp _ _ _; exact .lp _ _ _ _ _ _
theorem Wj (r : Row) : frz (frz r) = frz r:=by cases r <;> rfl
theorem Fb {r r' : Row} (h : AD r = some r') : r' = frz r:=by
 cases r with
 | lp st pd E ps ca cb=>simp [AD] at h
 | _=>simp only [AD,Ah,AaG] at h; exact h.2.symm
theorem Eu {r r' r2 : Row} (h : AD r = some r') (k : SameR r r2) : AD r2 = some (frz r2):=by
 cases k with
 | lp st pd E ps ca cb=>simp [AD] at h
 | _=>simp only [AD,Ah,AaG] at h ⊢; exact ⟨h.1,rfl⟩
def OO (rs : List Nat) (i : Nat) (row : Row) : Row:=match rs.contains i with
 | true=>frz row
 | false=>row
theorem JL (rs : List Nat) (i : Nat) (row : Row) : SameR row (OO rs i row):=by
 unfold OO
 split
 ·exact My row
 ·exact .refl row
theorem LQ {α : Type} : ∀ {l : List α} {i : Nat} (x : α),i < l.length -> Bw l i x = some (l.set i x)
 | [],i,x,h=>by simp at h
 | y :: l,0,x,_=>rfl
 | y :: l,i + 1,x,h=>by simp [Bw,LQ x (show i < l.length by simpa using h)]
theorem Br : ∀ {rs : List Nat} {H H' : Hp},AO rs H = some H' -> (∀ r,r ∈ rs -> ∃ row row',H[r]? = some row /\ AD row = some row') /\ ∀ i,H'[i]? = (H[i]?).map (OO rs i)
 | [],H,H',h=>by
  simp only [AO,AaG] at h
  subst h
  refine ⟨by simp,fun i=>?_⟩
  cases H[i]? <;> rfl
 | r :: rs,H,H',h=>by
  simp only [AO,AaF,AK] at h
  obtain ⟨row,hrow,row',hf,H1,hs,h⟩:=h
  obtain ⟨hl,rfl⟩:=BJ hs
  have:=Fb hf
  subst this
  obtain ⟨h1,h2⟩:=Br h
  refine ⟨fun k hk=>?_,fun i=>?_⟩
  ·by_cases e : k = r
   ·subst e; exact ⟨row,_,hrow,hf⟩
   ·obtain ⟨x,x',hx,hx'⟩:=h1 k ((Abd.1 hk).resolve_left e)
    rw [AbM (Ne.symm e)] at hx
    exact ⟨x,x',hx,hx'⟩
  ·rw [h2 i]
   by_cases e : i = r
   ·subst e
    rw [hrow,List.getElem?_set_self hl]
    simp only [AbE,OO,List.contains_cons,beq_self_eq_true,Bool.true_or]
    cases rs.contains i <;> simp [Wj]
   ·rw [AbM (Ne.symm e)]
    cases H[i]? with
    | none=>rfl
    | some x =>
     have : (i == r) = false:=by simpa using e
     simp only [AbE,OO,List.contains_cons,this,Bool.false_or]
theorem JM : ∀ {rs : List Nat} {H : Hp},(∀ r,r ∈ rs -> ∃ row row',H[r]? = some row /\ AD row = some row') -> ∃ H',AO rs H = some H'
 | [],H,_=>⟨H,rfl⟩
 | r :: rs,H,h=>by
  obtain ⟨row,row',hrow,hf⟩:=h r (by simp)
  have hl:=(AaI.1 hrow).1
  have:=Fb hf
  subst this
  obtain ⟨H',h'⟩:=JM (rs:=rs) (H:=H.set r (frz row)) fun k hk=>by
   obtain ⟨x,x',hx,hx'⟩:=h k (by simp [hk])
   by_cases e : k = r
   ·subst e
    rw [List.getElem?_set_self hl]
    exact ⟨_,_,rfl,Eu hf (My row)⟩
   ·rw [AbM (Ne.symm e)]
    exact ⟨x,x',hx,hx'⟩
  exact ⟨H',by simp [AO,AK,hrow,hf,LQ _ hl,h']⟩
theorem GU {rs : List Nat} (h : AO rs H = some H') : Le H H' /\ Le H' H /\ H'.length = H.length:=by
 obtain ⟨_,h2⟩:=Br h
 refine ⟨fun r row hr=>⟨OO rs r row,by rw [h2,hr]; rfl,JL _ _ _⟩,fun r row hr=>?_,?_⟩
 ·rw [h2] at hr
  obtain ⟨x,hx,rfl⟩:=Abh.1 hr
  exact ⟨x,hx,(JL _ _ _).symm⟩
 ·have a1 : ∀ i,i < H'.length ↔ i < H.length:=fun i=>by
   have:=h2 i
   constructor
   ·intro hlt
    rw [AaK hlt] at this
    cases hx : H[i]? with
    | none=>simp [hx] at this
    | some x=>exact (AaI.1 hx).1
   ·intro hlt
    rw [AaK hlt,AbE] at this
    exact (AaI.1 this).1
  rcases Nat.lt_trichotomy H'.length H.length with h | h | h
  ·have:=(a1 H'.length).2 h; omega
  ·exact h
  ·have:=(a1 H.length).1 h; omega
theorem GT {rs : List Nat} {K : Hp} (h : AO rs H = some H') (k : Le H K) : ∃ K',AO rs K = some K' :=
 JM fun r hr=>by
  obtain ⟨row,row',h1,h2⟩:=(Br h).1 r hr
  obtain ⟨row2,h3,h4⟩:=k r row h1
  exact ⟨row2,_,h3,Eu h2 h4⟩
theorem PW (rs qs : List Nat) (i : Nat) (row : Row) : OO rs i (OO qs i row) = OO qs i (OO rs i row):=by
 unfold OO
 cases rs.contains i <;> cases qs.contains i <;> rfl
theorem Lh {rs qs : List Nat} {A B C D : Hp} (h1 : AO rs H = some A) (h2 : AO qs A = some B) (h3 : AO qs H = some C) (h4 : AO rs C = some D) : D = B:=by
 refine List.ext_getElem? fun i=>?_
 rw [(Br h4).2,(Br h3).2,(Br h2).2,(Br h1).2]
 cases H[i]? with
 | none=>rfl
 | some row=>simp only [AbE,PW rs qs]
theorem Li {rs : List Nat} {A D rows : Hp} (h1 : AO rs H = some A) (h2 : AO rs (H ++ rows) = some D) : D = A ++ rows:=by
 have hl:=(GU h1).2.2
 refine List.ext_getElem? fun i=>?_
 rw [(Br h2).2]
 by_cases hi : i < H.length
 ·rw [Aba hi,Aba (by omega),(Br h1).2]
 ·rw [AbK (by omega),AbK (by omega),hl]
  cases hx : rows[i - H.length]? with
  | none=>rfl
  | some x =>
   have hnot : rs.contains i = false:=by
    cases hc : rs.contains i with
    | false=>rfl
    | true =>
     obtain ⟨y,_,hy,_⟩:=(Br h1).1 i (List.contains_iff_mem.1 hc)
     exact absurd (AaI.1 hy).1 hi
   simp only [AbE,OO,hnot]
def Quiet (f : Mem -> Option (V × Mem)) (M : Mem) (v : V) (M1 : Mem) : Prop:=∃ rs,AO rs M.H = some M1.H /\ M1.B = M.B /\ ∀ K K',Le M.H K -> AO rs K = some K' -> f ⟨M.B,K⟩ = some (v,⟨M.B,K'⟩)
def AaD (sh : Nat -> Bool) (call : Bp) : Prop:=∀ f,sh f = false -> ∀ vs H v H',call f vs H = some (v,H') -> ∃ rs,AO rs H = some H' /\ ∀ K K',Le H K -> AO rs K = some K' -> call f vs K = some (v,K')
def Sb (sh : Nat -> Bool) (call : Bp) : Prop:=∀ f,sh f = true -> sh (2000000000 + f) = true -> ∀ vs H v H',call f vs H = some (v,H') -> ∃ rows,H' = H ++ rows /\ ∀ K,Le H K -> K.length = H.length -> call f vs K = some (v,K ++ rows)
def AV (sh : Nat -> Bool) (call : Bp) : Prop:=AaD sh call /\ Sb sh call
theorem Md {q : O} (hq : AV sh call) (hk : En sh q = 1) (he : evO call M q vs = some (v,M1)) : Quiet (fun K=>evO call K q vs) M v M1:=by
 cases q with
 | p o=>simp [En] at hk
 | r o =>
  obtain ⟨h,rfl⟩:=DS he
  refine ⟨[],rfl,rfl,fun K K' hle hf=>?_⟩
  simp only [AO,AaG] at hf
  subst hf
  simp [evO,hle.readX (B:=M1.B) h]
 | l o =>
  cases o with
  | bsf esz zero n places =>
   simp only [evO,Am,AaF,Ah,AaG,AaH] at he
   obtain ⟨es,h1,h2,l,h3,H',h4,rfl,rfl⟩:=he
   refine ⟨_,h4,rfl,fun K K' hle hf=>?_⟩
   have h3':=Bq (g:=fun e=>Ai (view 20 K) e) (fun x y=>Bq fun x y=>hle.view 20 x y) h3
   simp [evO,Am,h1,h2,gd,h3',hf]
  | cal f =>
   have hf : sh f = false:=by
    cases hs : sh f with
    | false=>rfl
    | true =>
     simp only [En,hs] at hk
     split at hk <;> simp at hk
   simp only [evO,Am,AaF,AaG,AaH] at he
   obtain ⟨⟨r,H'⟩,h1,rfl,rfl⟩:=he
   obtain ⟨rs,h2,h3⟩:=hq.1 f hf vs M.H r H' h1
   exact ⟨rs,h2,rfl,fun K K' hle hf=>by simp [evO,Am,h3 K K' hle hf]⟩
  | _=>simp [En] at hk
theorem Yx {q : O} (hq : AV sh call) (hk : En sh q = 2) (he : evO call M q vs = some (v,M1)) : ∃ rows,M1 = { M with H:=M.H ++ rows } /\ ∀ K : Mem,Le M.H K.H -> K.H.length = M.H.length -> evO call K q vs = some (v,{ K with H:=K.H ++ rows }):=by
 cases q with
 | p o=>simp [En] at hk
 | r o=>simp [En] at hk
 | l o =>
  cases o with
  | cal f =>
   have hf : sh f = true /\ sh (2000000000 + f) = true:=by
    cases hs : sh f with
    | false=>simp [En,hs] at hk
    | true =>
     cases h2 : sh (2000000000 + f) with
     | false=>simp [En,hs,h2] at hk
     | true=>exact ⟨rfl,rfl⟩
   simp only [evO,Am,AaF,AaG,AaH] at he
   obtain ⟨⟨r,H'⟩,h1,rfl,rfl⟩:=he
   obtain ⟨rows,rfl,k⟩:=hq.2 f hf.1 hf.2 vs M.H r H' h1
   exact ⟨rows,rfl,fun K hle hK=>by simp [evO,Am,k K.H hle hK]⟩
  | als ty esz n zero =>
   match vs,he with
   | [],he =>
    simp only [evO,Am,Ah,AaG,AaH] at he
    obtain ⟨h1,rfl,rfl⟩:=he
    exact ⟨_,rfl,fun K _ hK=>by simp only [evO,Am,h1,gd,hK]⟩
  | bxs ty esz n =>
   match vs,he with
   | [x],he =>
    simp only [evO,Am,AaF,Ah,AaG,AaH] at he
    obtain ⟨cs,h0,h1,rfl,rfl⟩:=he
    exact ⟨_,rfl,fun K _ hK=>by simp only [evO,Am,h0,AaR,h1,gd,hK]⟩
  | mkm =>
   match vs,he with
   | [],he =>
    simp only [evO,Am,AaG,AaH] at he
    obtain ⟨rfl,rfl⟩:=he
    exact ⟨_,rfl,fun K _ hK=>by simp only [evO,Am,hK]⟩
   | [x],he =>
    simp only [evO,Am] at he
    split at he
    ·simp only [AaG,AaH] at he
     obtain ⟨rfl,rfl⟩:=he
     exact ⟨_,rfl,fun K _ hK=>by simp only [evO,Am,hK]⟩
    ·cases he
  | mks ty esz zero bytes =>
   match vs,he with
   | [x,y],he =>
    simp only [evO,Am] at he
    split at he
    ·simp only [AaF,Ah,AaG,AaH] at he
     obtain ⟨n,h0,h1,rfl,rfl⟩:=he
     exact ⟨_,rfl,fun K _ hK=>by simp only [evO,Am,h0,AaR,h1,gd,hK]⟩
    ·cases he
  | bss ty esz zero n places =>
   simp only [evO,Am,AaF,Ah,AaG,AaH] at he
   obtain ⟨es,h0,h1,rfl,rfl⟩:=he
   exact ⟨_,rfl,fun K _ hK=>by simp only [evO,Am,h0,AaR,h1,gd,hK]⟩
  | _=>simp [En] at hk
theorem DT {x : OP} (h : evO call M (.p x) vs = some (v,M')) (K : Mem) : evO call K (.p x) vs = some (v,K):=by
 obtain ⟨h,_⟩:=Bl h
 simp [evO,h]
theorem PP {q : O} (h : En sh q = 0) : ∃ x,q = .p x:=by
 cases q with
 | p o=>exact ⟨o,rfl⟩
 | r o=>simp [En] at h
 | l o=>cases o <;> simp only [En] at h <;> first | (simp at h; done) | ((repeat' split at h) <;> simp at h)
def Ext (H K : Hp) : Prop:=∀ (r : Nat) ty esz es base fz,H[r]? = some (.cs ty esz es base fz) -> ∃ xs fz',K[r]? = some (.cs ty esz (es ++ xs) base fz')
theorem Wg {B B' : List (Nat × List V)} {K : Hp} (h : Ext H K) (he : readX ⟨B,H⟩ .ld1 vs = some v) : readX ⟨B',K⟩ .ld1 vs = some v:=by
 obtain ⟨r,ver,ix,off,ty,esz,es,base,fz,e,rfl,hrow,h1,h2,he,hv⟩:=Ms he
 rw [AK] at hrow he
 obtain ⟨xs,fz',hk⟩:=h r ty esz es base fz hrow
 have he' : nth (es ++ xs) ix = some e:=by rw [AK,Aba (AaI.1 he).1]; exact he
 have hb : Nat.blt off esz = true:=by rw [AbU]; exact h2
 simp only [readX,AK K,hk,AaR,h1,hb,Bool.and_self,gd,he',hv]
theorem Te (H : Hp) : Ext H H:=fun r ty esz es base fz h=>⟨[],fz,by simpa using h⟩
theorem Td (H : Hp) (row : Row) : Ext H (H ++ [row]):=fun r ty esz es base fz h=>⟨[],fz,by rw [Aba (AaI.1 h).1]; simpa using h⟩
theorem FC {ty esz b : Nat} {es : List (List V)} (h : BI M ty esz b es = some (v,M1)) : Ext M.H M1.H:=by
 simp only [BI,Ah,AaG,AaH] at h
 obtain ⟨_,_,rfl⟩:=h
 exact Td _ _
theorem MQ {ty esz b : Nat} {s : V} {xs : List (List V)} (h : EG M ty esz b s xs = some (v,M1)) : Ext M.H M1.H:=by
 unfold EG at h
 split at h
 ·split at h <;> first | (cases h; exact Te _) | cases h
 ·split at h
  ·exact FC h
  ·exact FC h
  ·simp only [AaF,AK] at h
   obtain ⟨row,hrow,h⟩:=h
   split at h
   ·split at h
    ·simp only [Ah] at h
     exact FC h.2
    ·simp only [Ah,AaJ,AaF,AaG,AaH] at h
     obtain ⟨_,H',hset,_,rfl⟩:=h
     obtain ⟨hlt,rfl⟩:=BJ hset
     intro r' ty' esz' es' base' fz' hr
     rename_i r ver esz0 st len lim _ _ ty0 esz1 es0 base0 fz0 _
     by_cases c : r' = r
     ·subst c
      rw [hrow] at hr
      cases hr
      exact ⟨_,false,List.getElem?_set_self (by simpa using hlt)⟩
     ·exact ⟨[],fz',by rw [AbM (Ne.symm c)]; simpa using hr⟩
   ·cases h
  ·cases h
theorem Iu {ag : Bool} {sz : Nat} (h : readX M (.ldb ag sz) vs = some v) (K : Hp) : readX ⟨M.B,K⟩ (.ldb ag sz) vs = some v:=by
 obtain ⟨d,off,rfl,h⟩:=Mr h
 exact h
theorem Sj {d sz : Nat} (h : Am call M (.stb d sz) vs = some (v,M1)) : ∃ cs,M1 = ⟨DB M.B d cs,M.H⟩:=by
 obtain ⟨a,x,rfl,h1,h2⟩:=Jk h
 clear h
 cases a with
 | fa k off =>
  have:=AaY h1
  subst this
  simp only [Am,AaF,Ah,EO,AaG,AaH] at h2
  obtain ⟨cs,_,_,M2,⟨c1,_,c2,_,rfl⟩,_,rfl⟩:=h2
  exact ⟨_,rfl⟩
 | _=>cases h1
theorem str_B {sz : Nat} (h : Am call M (.str sz) vs = some (v,M1)) : M1.B = M.B:=by
 obtain ⟨a,x,rfl,h1,h2⟩:=Ji h
 clear h
 simp only [Am,AaF,Ah,AaG,AaH] at h2
 obtain ⟨cs,_,_,M2,hw,_,rfl⟩:=h2
 cases a with
 | fa k off=>cases h1
 | pt r ver ix off =>
  simp only [EO,AaF] at hw
  obtain ⟨row,_,hw⟩:=hw
  split at hw
  ·simp only [Ah,AaF,AaG] at hw
   obtain ⟨_,_,_,_,_,rfl⟩:=hw
   rfl
  ·cases hw
 | _=>cases hw
theorem Wf {d : Nat} {ag : Bool} {sz : Nat} (h : readX M (.ldx d ag sz) vs = some v) (cs : List V) : readX ⟨DB M.B d cs,M.H⟩ (.ldx d ag sz) vs = some v:=by
 obtain ⟨a,rfl,h1,h⟩:=Mq h
 refine YG h1 ?_
 cases a with
 | fa k off =>
  have hne : k ≠ d:=fun e=>by subst e; simp [Us] at h1
  have e : readA ⟨DB M.B d cs,M.H⟩ sz (.fa k off) = readA M sz (.fa k off):=by simp only [readA,Bn,AaL hne]
  simp only [readX] at h ⊢
  rw [e]
  exact h
 | m x=>cases x <;> exact h
 | _=>exact h
theorem UB {ty esz b : Nat} {s : V} {xs : List (List V)} (h : EG M ty esz b s xs = some (v,M1)) : M1.B = M.B:=by
 unfold EG BI at h
 split at h
 ·split at h <;> first | (cases h; rfl) | cases h
 ·split at h
  ·simp only [Ah,AaG,AaH] at h
   obtain ⟨_,_,rfl⟩:=h
   rfl
  ·simp only [Ah,AaG,AaH] at h
   obtain ⟨_,_,rfl⟩:=h
   rfl
  ·simp only [AaF,AK] at h
   obtain ⟨row,hrow,h⟩:=h
   split at h
   ·split at h
    ·simp only [Ah,AaG,AaH] at h
     obtain ⟨_,_,_,rfl⟩:=h
     rfl
    ·simp only [Ah,AaJ,AaF,AaG,AaH] at h
     obtain ⟨_,H',hset,_,rfl⟩:=h
     rfl
   ·cases h
  ·cases h
theorem SP {qx qy : O} {xs ys : List V} (hq : AV sh call) (hk : En sh qx = 0 \/ En sh qy = 0 \/ (En sh qx = 1 /\ En sh qy <= 2) \/ SS qx qy = true) (hx : evO call M qx xs = some (v1,M1)) (hy : evO call M1 qy ys = some (v2,M2)) :
  ∃ M1',evO call M qy ys = some (v2,M1') /\ evO call M1' qx xs = some (v1,M2):=by
 rcases hk with hk | hk | ⟨hk1,hk2⟩ | hk
 rotate_left 3
 ·unfold SS at hk
  split at hk
  ·rename_i ty e b
   obtain ⟨hx,rfl⟩:=DS hx
   refine ⟨M2,hy,?_⟩
   have hext : Ext M1.H M2.H:=by
    match ys,hy with
    | [s,x],hy =>
     simp only [evO,Am] at hy
     split at hy
     ·exact MQ hy
     ·simp only [AaF] at hy
      obtain ⟨_,_,hy⟩:=hy
      exact MQ hy
    | [],hy=>simp [evO,Am] at hy
    | [_],hy=>simp [evO,Am] at hy
    | _ :: _ :: _ :: _,hy=>simp [evO,Am] at hy
   simp only [evO,AaF]
   exact ⟨v1,Wg (B:=M1.B) hext hx,rfl⟩
  ·obtain ⟨hx,rfl⟩:=DS hx
   refine ⟨M2,hy,?_⟩
   simp only [evO,Am,AaF,AaG,AaH] at hy
   obtain ⟨p,_,_,rfl⟩:=hy
   simp only [evO,AaF]
   exact ⟨v1,Iu hx _,rfl⟩
  ·obtain ⟨hx,rfl⟩:=DS hx
   refine ⟨M2,hy,?_⟩
   have hB : M2.B = M1.B:=by
    match ys,hy with
    | [s,x],hy =>
     simp only [evO,Am] at hy
     split at hy
     ·exact UB hy
     ·simp only [AaF] at hy
      obtain ⟨_,_,hy⟩:=hy
      exact UB hy
    | [],hy=>simp [evO,Am] at hy
    | [_],hy=>simp [evO,Am] at hy
    | _ :: _ :: _ :: _,hy=>simp [evO,Am] at hy
   simp only [evO,AaF]
   have:=Iu hx M2.H
   rw [<- hB] at this
   exact ⟨v1,this,rfl⟩
  ·obtain ⟨hx,rfl⟩:=DS hx
   refine ⟨M2,hy,?_⟩
   have hB : M2.B = M1.B:=by
    match ys,hy with
    | .fn f cap :: xs,hy =>
     simp only [evO,Am,AaF,AaG,AaH] at hy
     obtain ⟨p,_,_,rfl⟩:=hy
     rfl
    | .m (.fn f cap) :: xs,hy =>
     simp only [evO,Am,AaF,AaG,AaH] at hy
     obtain ⟨p,_,_,rfl⟩:=hy
     rfl
    | .yl r :: xs,hy =>
     simp only [evO,Am,AaF,AaG,AaH] at hy
     obtain ⟨p,_,_,rfl⟩:=hy
     rfl
    | .m (.b _) :: xs,hy=>simp [evO,Am] at hy
    | .m (.i _ _) :: xs,hy=>simp [evO,Am] at hy
    | .m (.s _) :: xs,hy=>simp [evO,Am] at hy
    | .m (.nl _) :: xs,hy=>simp [evO,Am] at hy
    | .m .er :: xs,hy=>simp [evO,Am] at hy
    | .m (.sl _) :: xs,hy=>simp [evO,Am] at hy
    | .m (.pt _) :: xs,hy=>simp [evO,Am] at hy
    | .m (.ag _) :: xs,hy=>simp [evO,Am] at hy
    | .m (.mp _) :: xs,hy=>simp [evO,Am] at hy
    | .un :: xs,hy=>simp [evO,Am] at hy
    | .ls _ :: xs,hy=>simp [evO,Am] at hy
    | .sl .. :: xs,hy=>simp [evO,Am] at hy
    | .pt .. :: xs,hy=>simp [evO,Am] at hy
    | .fa .. :: xs,hy=>simp [evO,Am] at hy
    | .mp _ :: xs,hy=>simp [evO,Am] at hy
    | .ag _ :: xs,hy=>simp [evO,Am] at hy
    | .tu _ :: xs,hy=>simp [evO,Am] at hy
    | [],hy=>simp [evO,Am] at hy
   simp only [evO,AaF]
   have:=Iu hx M2.H
   rw [<- hB] at this
   exact ⟨v1,this,rfl⟩
  ·have hk:=AaY hk
   subst hk
   obtain ⟨hx,rfl⟩:=DS hx
   refine ⟨M2,hy,?_⟩
   obtain ⟨cs,rfl⟩:=Sj (call:=call) hy
   simp only [evO,AaF]
   exact ⟨v1,Wf hx cs,rfl⟩
  ·obtain ⟨hx,rfl⟩:=DS hx
   refine ⟨M2,hy,?_⟩
   have hB : M2.B = M1.B:=str_B (call:=call) hy
   simp only [evO,AaF]
   have:=Iu hx M2.H
   rw [<- hB] at this
   exact ⟨v1,this,rfl⟩
  ·cases hk
 ·obtain ⟨x,rfl⟩:=PP hk
  have:=DT hx M2
  obtain ⟨_,rfl⟩:=Bl hx
  exact ⟨M2,hy,this⟩
 ·obtain ⟨y,rfl⟩:=PP hk
  have:=DT hy M
  obtain ⟨_,rfl⟩:=Bl hy
  exact ⟨M,this,hx⟩
 ·obtain ⟨rs,h1,h2,h3⟩:=Md hq hk1 hx
  obtain ⟨l1,l2,l3⟩:=GU h1
  have : En sh qy = 0 \/ En sh qy = 1 \/ En sh qy = 2:=by omega
  rcases this with hy0 | hy1 | hy2
  ·obtain ⟨y,rfl⟩:=PP hy0
   have:=DT hy M
   obtain ⟨_,rfl⟩:=Bl hy
   exact ⟨M,this,hx⟩
  ·obtain ⟨qs,k1,k2,k3⟩:=Md hq hy1 hy
   obtain ⟨C,hC⟩:=GT k1 l2
   obtain ⟨m1,m2,m3⟩:=GU hC
   obtain ⟨D,hD⟩:=GT h1 m1
   have:=Lh h1 k1 hC hD
   subst this
   refine ⟨⟨M.B,C⟩,by have:=k3 M.H C l2 hC; rwa [h2] at this,?_⟩
   have:=h3 C M2.H m1 hD
   have e : M2 = ⟨M.B,M2.H⟩:=by rw [<- h2,<- k2]
   rw [e]
   exact this
  ·obtain ⟨rows,rfl,k⟩:=Yx hq hy2 hy
   refine ⟨_,k M l2 l3.symm,?_⟩
   obtain ⟨D,hD⟩:=GT h1 (Le.apps M.H rows)
   have:=Li h1 hD
   subst this
   have:=h3 _ _ (Le.apps M.H rows) hD
   simp only [h2]
   exact this
/- The swap of two operations. -/
def okD : Dst -> V -> Bool
 | .v n,x=>EW n x
 | _,_=>true
def Fz (s : St) : Dst -> V -> St
 | .no,_=>s
 | .v n,x=>{ s with E:=BT s.E n x }
 | .l n,x=>{ s with L:=BT s.L n x }
theorem Ik (s : St) (d : Dst) (x : V) : CB s d x = gd (okD d x) (some (Fz s d x)):=by cases d <;> rfl
theorem Ul (s : St) (d : Dst) (x : V) : (Fz s d x).M = s.M:=by cases d <;> rfl
theorem HI (s : St) (d : Dst) (x : V) (M : Mem) : { Fz s d x with M:=M } = Fz { s with M:=M } d x:=by cases d <;> rfl
theorem Jl (e : Env) (n m : Nat) (x y : V) (h : n ≠ m) : BT (BT e n x) m y = BT (BT e m y) n x:=by
 have blt : ∀ a b : Nat,Nat.blt a b = decide (a < b):=fun a b=>by
  rw [Abu]; simp [AbU]
 have beq' : ∀ a b : Nat,Nat.beq a b = decide (a = b):=fun a b=>by
  rw [Abu]; simp [AaV]
 induction e with
 | nil =>
  simp only [BT,blt,beq']
  rcases Nat.lt_or_gt_of_ne h with h' | h'
  ·have : ¬ m < n:=by omega
   simp [this,h',h]
  ·have : ¬ n < m:=by omega
   simp [this,h',Ne.symm h]
 | cons p r ih =>
  obtain ⟨k,z⟩:=p
  simp only [BT,blt,beq']
  rcases Nat.lt_trichotomy n k with h1 | h1 | h1 <;> rcases Nat.lt_trichotomy m k with h2 | h2 | h2 <;> rcases Nat.lt_or_gt_of_ne h with h3 | h3 <;>
   first
    | (exfalso; omega)
    | (simp (disch:=omega) only [BT,blt,beq',AaP,AaO]; done)
    | (simp (disch:=omega) only [BT,blt,beq',AaP,AaO,ih]; done)
theorem PA (s : St) (d d' : Dst) (x y : V) (h : So d d' = false) : Fz (Fz s d x) d' y = Fz (Fz s d' y) d x:=by
 have ne : ∀ n m : Nat,Nat.beq n m = false -> n ≠ m:=fun n m h e=>by subst e; simp at h
 cases d <;> cases d' <;> simp only [Fz,So] at h ⊢
 ·rw [Jl _ _ _ _ _ (ne _ _ h)]
 ·rw [Jl _ _ _ _ _ (ne _ _ h)]
end
end Go.Mx
/- Regions that draw their order. -/
namespace Go.Mx
section
variable {P : Program} {M M' M1 M2 : Mem} {H H' H2 : Hp} {vs : List V} {v v1 v2 : V} {call : Bp} {s s' s1 s2 : St} {sh : Nat -> Bool} {x y : Op} {hi : Hint} {gl : Nat -> Option (List I)} {nt : Nat} {ds : List Deferred} {rd : Option Nat}
def Cp (s : St) (x : Op) : Option (Option (O × List V)):=(Ay s x.guard).bind fun q=>match q with
 | true=>gd (AW s x.op) ((Ai (evA s) x.args).bind fun vs=>some (some (x.op,vs)))
 | false=>some none
def EM (call : Bp) (M : Mem) : Option (O × List V) -> Option (V × Mem)
 | some (o,vs)=>evO call M o vs
 | none=>some (.un,M)
theorem Fe {s s1 : St} {x : Op} : DD call s x = some s1 ↔ ∃ q v M1,Cp s x = some q /\ EM call s.M q = some (v,M1) /\ okD x.dst v = true /\ s1 = Fz { s with M:=M1 } x.dst v:=by
 constructor
 ·intro h
  simp only [DD,AaF] at h
  obtain ⟨b,hb,h⟩:=h
  cases b with
  | true =>
   simp only [Ah,AaF] at h
   obtain ⟨hf,vs,hvs,⟨v,M1⟩,he,hs⟩:=h
   rw [Ik,Ah,AaG] at hs
   exact ⟨some (x.op,vs),v,M1,by simp [Cp,hb,hf,hvs,gd],he,hs.1,hs.2.symm⟩
  | false =>
   simp only at h
   rw [Ik,Ah,AaG] at h
   exact ⟨none,.un,s.M,by simp [Cp,hb],rfl,h.1,h.2.symm⟩
 ·rintro ⟨q,v,M1,hq,hm,hd,rfl⟩
  simp only [Cp,AaF] at hq
  obtain ⟨b,hb,h⟩:=hq
  cases b with
  | true =>
   simp only [Ah,AaF,AaG] at h
   obtain ⟨hf,vs,hvs,rfl⟩:=h
   have hm : evO call s.M x.op vs = some (v,M1):=hm
   simp [DD,hb,hf,hvs,gd,hm,Ik,hd]
  | false =>
   simp only [AaG] at h
   subst h
   simp only [EM,AaG,AaH] at hm
   obtain ⟨rfl,rfl⟩:=hm
   simp [DD,hb,Ik,hd,gd]
theorem IE {d : Dst} {q : Opnd} (h : Mu d q = false) : evA (Fz s d v) q = evA s q:=by
 have ne : ∀ n m : Nat,Nat.beq n m = false -> m ≠ n:=fun n m h e=>by subst e; simp at h
 cases d <;> cases q <;> simp only [Fz,evA,Mu] at h ⊢
 ·rw [DQ,AaL (ne _ _ h)]
 ·rw [DQ,AaL (ne _ _ h)]
theorem Dx {d : Dst} : ∀ {az : List Opnd},az.any (Mu d) = false -> Ai (evA (Fz s d v)) az = Ai (evA s) az
 | [],_=>rfl
 | q :: az,h=>by
  simp only [List.any_cons,Bool.or_eq_false_iff] at h
  simp only [Ai,IE h.1,Dx h.2]
theorem Mz {q : O} (h : CQ q = false) (s : St) : AW s q = true:=by
 unfold AW
 split
 ·simp [CQ] at h
 ·simp [CQ] at h
 ·rfl
theorem Df {d : Dst} {y : Op} (h : (Gc y).any (Mu d) = false) (ha : CQ y.op = false) : Cp (Fz s d v) y = Cp s y:=by
 unfold Cp
 simp only [Gc] at h
 cases hg : y.guard with
 | none =>
  rw [hg] at h
  simp only [Ay,AaR,Mz ha,Dx h]
 | some p =>
  obtain ⟨q,b⟩:=p
  rw [hg] at h
  simp only [List.any_cons,Bool.or_eq_false_iff] at h
  simp only [Ay,IE h.1,Mz ha,Dx h.2]
theorem CH (y : Op) (M : Mem) : Cp { s with M:=M } y = Cp s y:=rfl
theorem PS {qx qy : Option (O × List V)} (hq : AV sh call) (hk : ∀ ox xs oy ys,qx = some (ox,xs) -> qy = some (oy,ys) -> (En sh ox = 0 \/ En sh oy = 0 \/ (En sh ox = 1 /\ En sh oy <= 2) \/ SS ox oy = true))
  (hx : EM call M qx = some (v1,M1)) (hy : EM call M1 qy = some (v2,M2)) : ∃ M1',EM call M qy = some (v2,M1') /\ EM call M1' qx = some (v1,M2):=by
 cases qx with
 | none =>
  simp only [EM,AaG,AaH] at hx
  obtain ⟨rfl,rfl⟩:=hx
  exact ⟨M2,hy,rfl⟩
 | some px =>
  cases qy with
  | none =>
   simp only [EM,AaG,AaH] at hy
   obtain ⟨rfl,rfl⟩:=hy
   exact ⟨M,rfl,hx⟩
  | some py=>exact SP hq (hk _ _ _ _ rfl rfl) hx hy
theorem Bz {q : O × List V} (h : Cp s x = some (some q)) : q.1 = x.op:=by
 simp only [Cp,AaF] at h
 obtain ⟨b,_,h⟩:=h
 cases b with
 | true =>
  simp only [Ah,AaF,AaG] at h
  obtain ⟨_,vs,_,rfl⟩:=h
  rfl
 | false=>simp at h
theorem Ir (sh : Nat -> Bool) (f : Nat) (B B' : List (Nat × List V)) (h : evO call ⟨B,H⟩ (.l (.cal f)) vs = some (v,M')) : M'.B = B /\ evO call ⟨B',H⟩ (.l (.cal f)) vs = some (v,⟨B',M'.H⟩):=by
 simp only [evO,Am,AaF,AaG,AaH] at h
 obtain ⟨p,h1,rfl,rfl⟩:=h
 exact ⟨rfl,by simp [evO,Am,h1]⟩
theorem Mm {q : O} (ha : CQ q = true) (h : evO call M q vs = some (v,M')) : M'.H = M.H /\ ∀ K,evO call ⟨M.B,K⟩ q vs = some (v,⟨M'.B,K⟩):=by
 cases q with
 | p o=>cases ha
 | r o=>cases ha
 | l o =>
  cases o with
  | alp d zero =>
   match vs,h with
   | [],h =>
    simp only [evO,Am,AaG,AaH] at h
    obtain ⟨rfl,rfl⟩:=h
    exact ⟨rfl,fun K=>rfl⟩
   | _ :: _,h=>simp [evO,Am] at h
  | bxp d sz =>
   match vs,h with
   | [x],h =>
    simp only [evO,Am,AaF,Ah,AaG,AaH] at h
    obtain ⟨cs,h1,h2,rfl,rfl⟩:=h
    exact ⟨rfl,fun K=>by simp [evO,Am,h1,h2,gd]⟩
   | [],h=>simp [evO,Am] at h
   | _ :: _ :: _,h=>simp [evO,Am] at h
  | _=>cases ha
theorem PX {q : O} {s t : St} (h : s.L = t.L) : AW s q = AW t q:=by
 unfold AW
 rw [h]
theorem De {d : Dst} {y : Op} (h : (Gc y).any (Mu d) = false) (hd : ∀ n,d ≠ .l n) : Cp (Fz s d v) y = Cp s y:=by
 have hL : (Fz s d v).L = s.L:=by
  cases d with
  | no=>rfl
  | v n=>rfl
  | l n=>exact absurd rfl (hd n)
 unfold Cp
 simp only [Gc] at h
 cases hg : y.guard with
 | none =>
  rw [hg] at h
  simp only [Ay,AaR,PX hL,Dx h]
 | some p =>
  obtain ⟨q,b⟩:=p
  rw [hg] at h
  simp only [List.any_cons,Bool.or_eq_false_iff] at h
  simp only [Ay,IE h.1,PX hL,Dx h.2]
theorem JX {x y : Op} (h : ML x y = true) : CQ x.op = true /\ (∃ f,y.op = .l (.cal f)) /\ ∀ n,y.dst ≠ .l n:=by
 unfold ML at h
 rw [AaJ] at h
 refine ⟨h.1,?_⟩
 have h:=h.2
 split at h
 ·cases h
 ·rename_i f d e1 hd
  exact ⟨⟨_,e1⟩,fun n e=>hd n e⟩
 ·cases h
def EOk (E : Env) : Prop:=∀ n d off,BA E n = some (.fa d off) -> n = d
theorem EOk.op {x : Op} (hE : EOk s.E) (h : DD call s x = some s1) : EOk s1.E:=by
 obtain ⟨q,v,M1,_,_,hd,rfl⟩:=Fe.1 h
 cases hx : x.dst with
 | no=>exact hE
 | l n=>exact hE
 | v n =>
  rw [hx] at hd
  intro m d off hm
  simp only [Fz,DQ] at hm
  split at hm
  ·rename_i e
   cases hm
   simp only [okD,EW,AaJ] at hd
   rw [e,<- AaY hd.1]
  ·exact hE m d off hm
theorem JT {d : Nat} {az : List Opnd} {vs : List V} (hE : EOk s.E) (hL : BU d s.L = true) (h1 : az.any (Mu (.v d)) = false) (h2 : (az.all fun a=>match a with | .k v=>AE v | _=>true) = true) (h : Ai (evA s) az = some vs) : ∀ off,¬ V.fa d off ∈ vs:=by
 intro off hm
 obtain ⟨i,hi⟩:=List.getElem?_of_mem hm
 obtain ⟨a,ha,he⟩:=(AI h).2 i _ hi
 have ham:=AaS ha
 have h1:=List.any_eq_false.1 h1 a ham
 have h2:=AaZ.1 h2 a ham
 cases a with
 | v k =>
  simp only [evA] at he
  have:=hE k d off he
  subst this
  simp [Mu] at h1
 | l k =>
  simp only [evA] at he
  exact Ip hL k d off he rfl
 | k v =>
  simp only [evA,AaG] at he
  subst he
  simp [AE] at h2
theorem Pz {o : OR} {B : List (Nat × List V)} {d : Nat} {zs : List V} (hn : ∀ off,¬ V.fa d off ∈ vs) (h : readX ⟨DB B d zs,H⟩ o vs = some v) : readX ⟨B,H⟩ o vs = some v:=by
 have hA : ∀ sz a,a ∈ vs -> readA ⟨DB B d zs,H⟩ sz a = readA ⟨B,H⟩ sz a:=fun sz a ha=>by
  cases a with
  | fa e off =>
   have hne : e ≠ d:=fun he=>by subst he; exact hn off ha
   simp only [readA,Bn,AaL hne]
  | m x=>cases x <;> rfl
  | _=>rfl
 cases o with
 | ld ag sz =>
  match vs,h with
  | [a],h =>
   simp only [readX] at h ⊢
   rw [hA sz a (by simp)] at h
   exact h
  | [],h=>simp [readX] at h
  | _ :: _ :: _,h=>simp [readX] at h
 | ldb ag sz =>
  match vs,h with
  | [a],h =>
   cases a with
   | fa e off =>
    simp only [readX] at h ⊢
    rw [hA sz _ (by simp)] at h
    exact h
   | _=>simp [readX] at h
  | [],h=>simp [readX] at h
  | _ :: _ :: _,h=>simp [readX] at h
 | ldx e ag sz =>
  match vs,h with
  | [a],h =>
   simp only [readX] at h ⊢
   rw [hA sz a (by simp)] at h
   exact h
  | [],h=>simp [readX] at h
  | _ :: _ :: _,h=>simp [readX] at h
 | lkp kt z ag ok =>
  match vs,h with
  | [m,k],h=>exact h
  | [],h=>simp [readX] at h
  | [_],h=>simp [readX] at h
  | _ :: _ :: _ :: _,h=>simp [readX] at h
 | lenm =>
  match vs,h with
  | [m],h=>exact h
  | [],h=>simp [readX] at h
  | _ :: _ :: _,h=>simp [readX] at h
 | slcA n esz lo hi mx =>
  match vs,h with
  | x :: t,h=>exact h
  | [],h=>simp [readX] at h
 | ld1 =>
  match vs,h with
  | [a],h=>exact h
  | [],h=>simp [readX] at h
  | _ :: _ :: _,h=>simp [readX] at h
 | b2s =>
  match vs,h with
  | [a],h=>exact h
  | [],h=>simp [readX] at h
  | _ :: _ :: _,h=>simp [readX] at h
theorem FD {M M1 : Mem} {ty esz b : Nat} {es : List (List V)} {v : V} (h : BI M ty esz b es = some (v,M1)) (B : List (Nat × List V)) : BI ⟨B,M.H⟩ ty esz b es = some (v,⟨B,M1.H⟩):=by
 simp only [BI,Ah,AaG,AaH] at h ⊢
 obtain ⟨h1,rfl,rfl⟩:=h
 exact ⟨h1,rfl,rfl⟩
theorem MR {M M1 : Mem} {ty esz b : Nat} {s v : V} {xs : List (List V)} (h : EG M ty esz b s xs = some (v,M1)) (B : List (Nat × List V)) : EG ⟨B,M.H⟩ ty esz b s xs = some (v,⟨B,M1.H⟩):=by
 cases xs with
 | nil =>
  unfold EG at h ⊢
  dsimp only at h ⊢
  split at h <;> first | (cases h; rfl) | cases h
 | cons x t =>
  unfold EG at h ⊢
  dsimp only at h ⊢
  split at h
  ·exact FD h B
  ·exact FD h B
  ·simp only [AaF] at h ⊢
   obtain ⟨row,hrow,h⟩:=h
   refine ⟨row,hrow,?_⟩
   split at h
   ·split at h
    ·simp only [Ah] at h ⊢
     exact ⟨h.1,FD h.2 B⟩
    ·simp only [Ah,AaF,AaG,AaH] at h ⊢
     obtain ⟨h1,H',h2,h3,rfl⟩:=h
     exact ⟨h1,H',h2,h3,rfl⟩
   ·cases h
  ·cases h
theorem QG {call : Bp} {M M1 : Mem} {ty esz b : Nat} {vs : List V} {v : V} (h : evO call M (.l (.app ty esz b)) vs = some (v,M1)) (B : List (Nat × List V)) : evO call ⟨B,M.H⟩ (.l (.app ty esz b)) vs = some (v,⟨B,M1.H⟩):=by
 match vs,h with
 | [s,x],h =>
  simp only [evO,Am] at h ⊢
  split at h
  ·exact MR h B
  ·simp only [AaF] at h ⊢
   obtain ⟨xs,h1,h2⟩:=h
   exact ⟨xs,h1,MR h2 B⟩
 | [],h=>simp [evO,Am] at h
 | [_],h=>simp [evO,Am] at h
 | _ :: _ :: _ :: _,h=>simp [evO,Am] at h
theorem app_B {call : Bp} {M M1 : Mem} {ty esz b : Nat} {vs : List V} {v : V} (h : evO call M (.l (.app ty esz b)) vs = some (v,M1)) : M1.B = M.B:=by
 have:=QG h M.B
 have h2 : evO call M (.l (.app ty esz b)) vs = some (v,⟨M.B,M1.H⟩):=this
 rw [h] at h2
 simp only [AaG,AaH,true_and] at h2
 rw [h2]
theorem Qw {x y : Op} (h : Qx x y = true) : ∃ d,x.dst = .v d /\ (∀ M vs v M',evO call M x.op vs = some (v,M') -> ∃ zs,M' = ⟨DB M.B d zs,M.H⟩ /\ ∀ K,evO call ⟨M.B,K⟩ x.op vs = some (v,⟨DB M.B d zs,K⟩)) /\ (∀ s,AW s x.op = BU d s.L) /\ LS y = true:=by
 unfold Qx at h
 split at h
 ·rename_i d zero n e1 e2
  rw [AaJ] at h
  have e:=AaY h.1
  subst e
  refine ⟨d,e2,fun M vs v M' he=>?_,fun s=>by rw [e1]; rfl,h.2⟩
  rw [e1] at he ⊢
  match vs,he with
  | [],he =>
   simp only [evO,Am,AaG,AaH] at he
   obtain ⟨rfl,rfl⟩:=he
   exact ⟨zero,rfl,fun K=>rfl⟩
  | _ :: _,he=>simp [evO,Am] at he
 ·rename_i d sz n e1 e2
  rw [AaJ] at h
  have e:=AaY h.1
  subst e
  refine ⟨d,e2,fun M vs v M' he=>?_,fun s=>by rw [e1]; rfl,h.2⟩
  rw [e1] at he ⊢
  match vs,he with
  | [x],he =>
   simp only [evO,Am,AaF,Ah,AaG,AaH] at he
   obtain ⟨cs,h1,h2,rfl,rfl⟩:=he
   exact ⟨cs,rfl,fun K=>by simp [evO,Am,h1,h2,gd]⟩
  | [],he=>simp [evO,Am] at he
  | _ :: _ :: _,he=>simp [evO,Am] at he
 ·cases h
theorem SO {d n : Nat} {v : V} (hv : ∀ off,v ≠ .fa d off) : ∀ {L : Env},BU d L = true -> BU d (BT L n v) = true:=by
 have one : ∀ {L : Env},BU d L = true -> BU d ((n,v) :: L) = true:=fun {L} h=>by
  cases v with
  | fa k off =>
   have hne : k ≠ d:=fun e=>hv off (by rw [e])
   simp only [BU,h,Bool.and_true,Abi]
   exact Bool.eq_false_iff.2 fun e=>hne (AaY e)
  | _=>exact h
 intro L
 induction L with
 | nil=>intro h; exact one h
 | cons p r ih =>
  obtain ⟨k,z⟩:=p
  intro h
  have hr : BU d r = true:=by
   cases z <;> first | exact h | (simp only [BU,AaJ] at h; exact h.2)
  simp only [BT]
  split
  ·exact one h
  ·split
   ·exact one hr
   ·have ih:=ih hr
    cases z <;> first | exact ih | (simp only [BU,AaJ] at h ⊢; exact ⟨h.1,ih⟩)
theorem SU {d : Dst} {y : Op} {q : Option (O × List V)} (h : (Gc y).any (Mu d) = false) (hf : AW (Fz s d v) y.op = true \/ q = none) (hq : q = none -> Cp s y = some none) : Cp s y = some q -> Cp (Fz s d v) y = some q:=by
 intro hi
 unfold Cp at hi hq ⊢
 simp only [Gc] at h
 have key : Ay (Fz s d v) y.guard = Ay s y.guard /\ Ai (evA (Fz s d v)) y.args = Ai (evA s) y.args:=by
  cases hg : y.guard with
  | none =>
   rw [hg] at h
   exact ⟨rfl,Dx h⟩
  | some p =>
   obtain ⟨a,b⟩:=p
   rw [hg] at h
   simp only [List.any_cons,Bool.or_eq_false_iff] at h
   exact ⟨by simp only [Ay,IE h.1],Dx h.2⟩
 rw [key.1,key.2]
 simp only [AaF] at hi ⊢
 obtain ⟨w,h1,h2⟩:=hi
 refine ⟨w,h1,?_⟩
 cases w with
 | false=>exact h2
 | true =>
  simp only [Ah] at h2 ⊢
  refine ⟨?_,h2.2⟩
  rcases hf with hf | rfl
  ·exact hf
  ·obtain ⟨_,h3⟩:=h2
   simp only [AaF,AaG] at h3
   obtain ⟨_,_,h4⟩:=h3
   cases h4
theorem Qu {x y : Op} (h : Qv x y = true) : ∃ d z e z',x.op = .l (.alp d z) /\ x.dst = .v d /\ y.op = .l (.alp e z') /\ y.dst = .v e:=by
 unfold Qv at h
 split at h
 ·rename_i d z n e z' m e1 e2 e3 e4
  rw [AaJ] at h
  have h1:=AaY h.1
  have h2:=AaY h.2
  subst h1
  subst h2
  exact ⟨_,_,_,_,e1,e2,e3,e4⟩
 ·cases h
theorem Qs {x y : Op} (h : Qt x y = true) : ∃ d z k,x.op = .l (.alp d z) /\ x.dst = .v d /\ y.op = .p (.fad k) /\ (y.args.all fun a=>match a with | .k v=>AE v | _=>true) = true:=by
 unfold Qt at h
 split at h
 ·rename_i d z n k e1 e2 e3
  rw [AaJ] at h
  have h1:=AaY h.1
  subst h1
  exact ⟨_,_,_,e1,e2,e3,h.2⟩
 ·cases h
theorem Zd {k d off : Nat} {a : V} (h : Ap (.fad k) [a] = some (.fa d off)) : ∃ off',a = .fa d off':=by
 simp only [Ap] at h
 split at h <;> first | (cases h; exact ⟨_,rfl⟩) | (simp at h)
theorem Ef {q : O × List V} (h : Cp s x = some (some q)) : AW s x.op = true /\ Ai (evA s) x.args = some q.2:=by
 simp only [Cp,AaF] at h
 obtain ⟨b,_,h⟩:=h
 cases b with
 | true =>
  simp only [Ah,AaF,AaG] at h
  obtain ⟨hf,vs,hvs,rfl⟩:=h
  exact ⟨hf,hvs⟩
 | false=>simp at h
theorem VT (hq : AV sh call) (hE : EOk s.E) (hap : apart sh x y = true) (h1 : DD call s x = some s1) (h2 : DD call s1 y = some s2) : ∃ t,DD call s y = some t /\ DD call t x = some s2:=by
 simp only [apart,AaJ,Bool.or_eq_true,Abi,AaV,Abv] at hap
 obtain ⟨⟨⟨a1,a2⟩,a3⟩,a6⟩:=hap
 obtain ⟨qx,v1,M1,i1,m1,d1,rfl⟩:=Fe.1 h1
 obtain ⟨qy,v2,M2,i2,m2,d2,rfl⟩:=Fe.1 h2
 rw [Ul] at m2
 suffices H : Cp s y = some qy /\ (∀ M,Cp (Fz { s with M:=M } y.dst v2) x = some qx) /\ ∃ M1',EM call s.M qy = some (v2,M1') /\ EM call M1' qx = some (v1,M2) by
  obtain ⟨i2,i1',M1',k1,k2⟩:=H
  refine ⟨Fz { s with M:=M1' } y.dst v2,Fe.2 ⟨qy,v2,M1',i2,k1,d2,rfl⟩,Fe.2 ⟨qx,v1,M2,i1' _,by rw [Ul]; exact k2,d1,?_⟩⟩
  rw [HI,HI]
  exact PA { s with M:=M2 } x.dst y.dst v1 v2 a3
 rcases a6 with ((((⟨⟨a4,a5⟩,a6⟩ | hb) | hb) | hb) | hb) | hb
 rotate_left 4
 ·obtain ⟨d,z,e,z',o1,o2,o3,o4⟩:=Qu hb
  have hde : d ≠ e:=fun h=>by
   subst h
   rw [o2,o4] at a3
   simp [So] at a3
  have j1 : Cp s y = some qy:=by
   rw [De a1 (by rw [o2]; intro n h; cases h),CH] at i2
   exact i2
  have j2 : ∀ M,Cp (Fz { s with M:=M } y.dst v2) x = some qx:=fun M=>by
   rw [De a2 (by rw [o4]; intro n h; cases h),CH]
   exact i1
  refine ⟨j1,j2,?_⟩
  cases qx with
  | none =>
   simp only [EM,AaG,AaH] at m1
   obtain ⟨rfl,rfl⟩:=m1
   exact ⟨M2,m2,rfl⟩
  | some px =>
   obtain ⟨ox,xs⟩:=px
   have e1 : ox = x.op:=Bz i1
   subst e1
   cases qy with
   | none =>
    simp only [EM,AaG,AaH] at m2
    obtain ⟨rfl,rfl⟩:=m2
    exact ⟨s.M,rfl,m1⟩
   | some py =>
    obtain ⟨oy,ys⟩:=py
    have e2 : oy = y.op:=Bz i2
    subst e2
    simp only [EM] at m1 m2 ⊢
    rw [o1] at m1 ⊢
    rw [o3] at m2 ⊢
    match xs,ys,m1,m2 with
    | [],[],m1,m2 =>
     simp only [evO,Am,AaG,AaH] at m1 m2
     obtain ⟨rfl,rfl⟩:=m1
     obtain ⟨rfl,rfl⟩:=m2
     refine ⟨⟨DB s.M.B e z',s.M.H⟩,rfl,?_⟩
     simp only [evO,Am]
     rw [Pp _ _ _ _ _ hde]
    | _ :: _,_,m1,_=>simp [evO,Am] at m1
    | [],_ :: _,_,m2=>simp [evO,Am] at m2
 ·obtain ⟨d,z,k,o1,o2,o3,s3⟩:=Qs hb
  have hya : CQ y.op = false:=by rw [o3]; rfl
  rw [Df a1 hya,CH] at i2
  have hfrL : ∀ px,qx = some px -> BU d s.L = true:=fun px h=>by
   subst h
   have:=(Ef i1).1
   rw [o1] at this
   exact this
  have hno : ∀ px,qx = some px -> ∀ off,v2 ≠ V.fa d off:=fun px hp off hv=>by
   subst hv
   cases qy with
   | none =>
    simp only [EM,AaG,AaH] at m2
    cases m2.1
   | some py =>
    obtain ⟨oy,ys⟩:=py
    have e2 : oy = y.op:=Bz i2
    subst e2
    have hys:=(Ef i2).2
    have hany : y.args.any (Mu (.v d)) = false:=by
     rw [o2] at a1
     cases hg : y.guard with
     | none=>simpa only [Gc,hg] using a1
     | some g =>
      have a1 : (g.1 :: y.args).any (Mu (.v d)) = false:=by simpa only [Gc,hg] using a1
      rw [List.any_cons,Bool.or_eq_false_iff] at a1
      exact a1.2
    have hn:=JT hE (hfrL px hp) hany s3 hys
    simp only [EM] at m2
    rw [o3] at m2
    obtain ⟨h3,_⟩:=Bl m2
    match ys,h3,hn with
    | [a],h3,hn =>
     obtain ⟨off',rfl⟩:=Zd h3
     exact hn off' (by simp)
    | [],h3,_=>simp [Ap] at h3
    | _ :: _ :: _,h3,_=>simp [Ap] at h3
  have m1' : ∀ px,qx = some px -> ∀ M,EM call M qy = some (v2,M):=fun px _ M=>by
   cases qy with
   | none =>
    simp only [EM,AaG,AaH] at m2 ⊢
    exact ⟨m2.1,AbL⟩
   | some py =>
    obtain ⟨oy,ys⟩:=py
    have e2 : oy = y.op:=Bz i2
    subst e2
    simp only [EM] at m2 ⊢
    rw [o3] at m2 ⊢
    exact DT m2 M
  have hfr2 : ∀ M,AW (Fz { s with M:=M } y.dst v2) x.op = true \/ qx = none:=fun M=>by
   cases qx with
   | none=>exact .inr rfl
   | some px =>
    refine .inl ?_
    rw [o1]
    show BU d (Fz { s with M:=M } y.dst v2).L = true
    have h1:=hfrL px rfl
    cases y.dst with
    | no=>exact h1
    | v n=>exact h1
    | l n=>exact SO (hno px rfl) h1
  have j2 : ∀ M,Cp (Fz { s with M:=M } y.dst v2) x = some qx:=fun M=>by
   refine SU (s:={ s with M:=M }) a2 (hfr2 M) (fun e=>?_) i1
   rw [e] at i1
   exact i1
  refine ⟨i2,j2,?_⟩
  cases qx with
  | none =>
   simp only [EM,AaG,AaH] at m1
   obtain ⟨rfl,rfl⟩:=m1
   exact ⟨M2,m2,rfl⟩
  | some px =>
   have hM : M2 = M1:=by
    cases qy with
    | none =>
     simp only [EM,AaG,AaH] at m2
     exact m2.2.symm
    | some py =>
     obtain ⟨oy,ys⟩:=py
     have e2 : oy = y.op:=Bz i2
     subst e2
     simp only [EM] at m2
     rw [o3] at m2
     exact (Bl m2).2
   rw [hM]
   exact ⟨s.M,m1' px rfl s.M,m1⟩
 rotate_left 3
 ·obtain ⟨d,e0,hM,hF,hs⟩:=Qw (call:=call) hb
  simp only [LS,AaJ] at hs
  obtain ⟨⟨s1,s2⟩,s3⟩:=hs
  have hyl : ∀ n,y.dst ≠ .l n:=fun n e=>by rw [e] at s1; cases s1
  have hya : CQ y.op = false:=by
   split at s2
   ·rename_i e; rw [e]; rfl
   ·rename_i e; rw [e]; rfl
   ·rename_i e; rw [e]; rfl
   ·cases s2
  rw [Df a1 hya,CH] at i2
  refine ⟨i2,fun M=>?_,?_⟩
  ·rw [De a2 hyl,CH]
   exact i1
  ·cases qx with
   | none =>
    simp only [EM,AaG,AaH] at m1
    obtain ⟨rfl,rfl⟩:=m1
    exact ⟨M2,m2,rfl⟩
   | some px =>
    obtain ⟨ox,xs⟩:=px
    have e1 : ox = x.op:=Bz i1
    subst e1
    cases qy with
    | none =>
     simp only [EM,AaG,AaH] at m2
     obtain ⟨rfl,rfl⟩:=m2
     exact ⟨s.M,rfl,m1⟩
    | some py =>
     obtain ⟨oy,ys⟩:=py
     have e2 : oy = y.op:=Bz i2
     subst e2
     simp only [EM] at m1 m2 ⊢
     obtain ⟨zs,rfl,hK⟩:=hM _ _ _ _ m1
     have hfr:=(Ef i1).1
     rw [hF] at hfr
     have hys:=(Ef i2).2
     have hany : y.args.any (Mu (.v d)) = false:=by
      rw [e0] at a1
      cases hg : y.guard with
      | none=>simpa only [Gc,hg] using a1
      | some g =>
       have a1 : (g.1 :: y.args).any (Mu (.v d)) = false:=by simpa only [Gc,hg] using a1
       rw [List.any_cons,Bool.or_eq_false_iff] at a1
       exact a1.2
     have hno:=JT hE hfr hany s3 hys
     split at s2
     ·rename_i o e
      rw [e] at m2 ⊢
      have:=DT m2 s.M
      obtain ⟨_,rfl⟩:=Bl m2
      exact ⟨_,this,m1⟩
     ·rename_i o e
      rw [e] at m2 ⊢
      obtain ⟨h3,rfl⟩:=DS m2
      have h4:=Pz hno h3
      refine ⟨s.M,?_,m1⟩
      simp only [evO,h4,AaR]
     ·rename_i e
      rw [e] at m2 ⊢
      have h5:=QG m2 s.M.B
      have h6:=app_B m2
      refine ⟨⟨s.M.B,M2.H⟩,h5,?_⟩
      rw [hK M2.H]
      cases M2
      dsimp only at h6 ⊢
      rw [h6]
     ·cases s2
 ·rw [Df a1 a5,CH] at i2
  refine ⟨i2,fun M=>?_,PS hq (fun ox xs oy ys e1 e2=>?_) m1 m2⟩
  ·rw [Df a2 a4,CH]
   exact i1
  ·subst e1; subst e2
   rw [show ox = x.op from Bz i1,show oy = y.op from Bz i2]
   rcases a6 with ((a6 | a6) | a6) | a6
   ·exact .inl a6
   ·exact .inr (.inl a6)
   ·exact .inr (.inr (.inl a6))
   ·exact .inr (.inr (.inr a6))
 ·obtain ⟨b1,⟨f,b2⟩,b3⟩:=JX hb
  have hy : CQ y.op = false:=by rw [b2]; rfl
  rw [Df a1 hy,CH] at i2
  refine ⟨i2,fun M=>?_,?_⟩
  ·rw [De a2 b3,CH]
   exact i1
  ·cases qx with
   | none =>
    simp only [EM,AaG,AaH] at m1
    obtain ⟨rfl,rfl⟩:=m1
    exact ⟨M2,m2,rfl⟩
   | some px =>
    obtain ⟨ox,xs⟩:=px
    have e1 : ox = x.op:=Bz i1
    subst e1
    cases qy with
    | none =>
     simp only [EM,AaG,AaH] at m2
     obtain ⟨rfl,rfl⟩:=m2
     exact ⟨s.M,rfl,m1⟩
    | some py =>
     obtain ⟨oy,ys⟩:=py
     have e2 : oy = y.op:=Bz i2
     subst e2
     simp only [EM] at m1 m2 ⊢
     obtain ⟨c1,c2⟩:=Mm b1 m1
     rw [b2] at m2 ⊢
     obtain ⟨c3,c4⟩:=Ir (B:=M1.B) (H:=M1.H) sh f s.M.B m2
     rw [c1] at c4
     refine ⟨_,c4,?_⟩
     have:=c2 M2.H
     rw [this,<- c3]
 ·obtain ⟨b1,⟨f,b2⟩,b3⟩:=JX hb
  have hx : CQ x.op = false:=by rw [b2]; rfl
  rw [De a1 b3,CH] at i2
  refine ⟨i2,fun M=>?_,?_⟩
  ·rw [Df a2 hx,CH]
   exact i1
  ·cases qx with
   | none =>
    simp only [EM,AaG,AaH] at m1
    obtain ⟨rfl,rfl⟩:=m1
    exact ⟨M2,m2,rfl⟩
   | some px =>
    obtain ⟨ox,xs⟩:=px
    have e1 : ox = x.op:=Bz i1
    subst e1
    cases qy with
    | none =>
     simp only [EM,AaG,AaH] at m2
     obtain ⟨rfl,rfl⟩:=m2
     exact ⟨s.M,rfl,m1⟩
    | some py =>
     obtain ⟨oy,ys⟩:=py
     have e2 : oy = y.op:=Bz i2
     subst e2
     simp only [EM] at m1 m2 ⊢
     rw [b2] at m1 ⊢
     obtain ⟨c1,c2⟩:=Mm b1 m2
     obtain ⟨c3,_⟩:=Ir (B:=s.M.B) (H:=s.M.H) sh f s.M.B m1
     have c5:=c2 s.M.H
     rw [c3] at c5
     refine ⟨_,c5,?_⟩
     obtain ⟨_,c4⟩:=Ir (B:=s.M.B) (H:=s.M.H) sh f M2.B m1
     rw [c4,<- c1]
theorem HU (hq : AV sh call) {q : Op} {post : List Op} : ∀ {pre : List Op} {s : St},EOk s.E -> (∀ x,x ∈ pre -> apart sh x q = true) -> Bc call (pre ++ q :: post) s = some s' -> Bc call (q :: (pre ++ post)) s = some s'
 | [],s,_,_,h=>h
 | p :: pre,s,hE,hap,h=>by
  simp only [AbQ,Bc,AaF] at h
  obtain ⟨s1,h1,h⟩:=h
  have:=HU hq (hE.op h1) (fun x hx=>hap x (by simp [hx])) h
  simp only [Bc,AaF] at this
  obtain ⟨s2,h2,h3⟩:=this
  obtain ⟨t,k1,k2⟩:=VT hq hE (hap p (by simp)) h1 h2
  simp only [AbQ,Bc,k1,AaR,k2]
  exact h3
/- What stands above an operation. -/
theorem MB {acc : List Nat} {j : Nat} : ∀ (l : List Nat) (s0 : Nat),Nat.testBit (l.foldl (fun s j=>Nat.lor s (Nat.lor (Nat.shiftLeft 1 j) (acc.getD j 0))) s0) j = true -> Nat.testBit s0 j = true \/ ∃ e,e ∈ l /\ (j = e \/ Nat.testBit (acc.getD e 0) j = true)
 | [],s0,h=>.inl h
 | e :: l,s0,h=>by
  simp only [List.foldl_cons] at h
  rcases MB l _ h with h | ⟨e',h1,h2⟩
  ·have h : Nat.testBit (s0 ||| (1 <<< e ||| acc.getD e 0)) j = true:=h
   rw [Nat.testBit_or,Nat.testBit_or,Bool.or_eq_true,Bool.or_eq_true] at h
   rcases h with h | h | h
   ·exact .inl h
   ·rw [Nat.one_shiftLeft,Nat.testBit_two_pow,AaU] at h
    exact .inr ⟨e,by simp,.inl h.symm⟩
   ·exact .inr ⟨e,by simp,.inr h⟩
  ·exact .inr ⟨e',by simp [h1],h2⟩
theorem EH : ∀ (ol : List Oper) (acc : List Nat) (e : Nat),e < acc.length -> (Ch acc ol).getD e 0 = acc.getD e 0
 | [],acc,e,_=>rfl
 | o :: r,acc,e,h=>by
  simp only [Ch]
  rw [EH r _ e (by simp; omega)]
  simp [Aba h]
theorem HY {j : Nat} : ∀ (ol : List Oper) (acc : List Nat) (k : Nat) (o : Oper),ol[k]? = some o -> Nat.testBit ((Ch acc ol).getD (acc.length + k) 0) j = true ->
  ∃ e,e ∈ CU o /\ (j = e \/ (e < acc.length + k /\ Nat.testBit ((Ch acc ol).getD e 0) j = true))
 | [],acc,k,o,ho,_=>by simp at ho
 | p :: r,acc,0,o,ho,h=>by
  simp only [List.getElem?_cons_zero,AaG] at ho
  subst ho
  have e1 : (Ch acc (p :: r)).getD (acc.length + 0) 0 = (CU p).foldl (fun s j=>Nat.lor s (Nat.lor (Nat.shiftLeft 1 j) (acc.getD j 0))) 0:=by
   simp only [Ch,Nat.add_zero]
   rw [EH r _ _ (by simp)]
   simp
  rw [e1] at h
  rcases MB _ _ h with h | ⟨e,h1,h2⟩
  ·simp at h
  ·refine ⟨e,h1,h2.imp id fun h2=>?_⟩
   by_cases hl : e < acc.length
   ·exact ⟨by omega,by rw [EH _ _ _ hl]; exact h2⟩
   ·simp [List.getElem?_eq_none (Nat.le_of_not_lt hl)] at h2
 | p :: r,acc,k + 1,o,ho,h=>by
  have:=HY (j:=j) r (acc ++ [(CU p).foldl (fun s j=>Nat.lor s (Nat.lor (Nat.shiftLeft 1 j) (acc.getD j 0))) 0]) k o (by simpa using ho)
  rw [AaX,List.length_singleton,show acc.length + 1 + k = acc.length + (k + 1) by omega] at this
  exact this h
theorem FU {ol : List Oper} {L : Nat -> Prop} (hc : ∀ (k : Nat) o,ol[k]? = some o -> L k -> ∀ e,e ∈ CU o -> L e) (hb : ∀ (k : Nat) o,ol[k]? = some o -> ∀ e,e ∈ CU o -> e < k) :
  ∀ (n k : Nat) o,k < n -> ol[k]? = some o -> (∀ e,e ∈ CU o -> L e) -> ∀ j,Nat.testBit ((Ch [] ol).getD k 0) j = true -> L j
 | 0,k,o,h,_,_,_,_=>by omega
 | n + 1,k,o,hk,ho,hL,j,hj=>by
  have:=HY (j:=j) ol [] k o ho (by simpa using hj)
  obtain ⟨e,he,h | ⟨_,h⟩⟩:=this
  ·rw [h]; exact hL e he
  ·have hek:=hb k o ho e he
   obtain ⟨oe,hoe⟩ : ∃ oe,ol[e]? = some oe:=⟨_,AaK (by have:=(AaI.1 ho).1; omega)⟩
   exact FU hc hb n e oe (by omega) hoe (hc e oe hoe (hL e he)) j h
theorem JB {o : Oper} {k : Nat} : k ∈ CU o ↔ ∃ e,e ∈ o.after /\ Region.binds .any e = true /\ e.on = k:=by
 simp only [CU,List.mem_filterMap]
 constructor
 ·rintro ⟨e,h1,h2⟩
  split at h2
  ·rename_i h
   exact ⟨e,by simpa using h1,h,Option.some.inj h2⟩
  ·cases h2
 ·rintro ⟨e,h1,h2,h3⟩
  exact ⟨e,by simpa using h1,by simp [h2,h3]⟩
theorem VX {ops : Array Oper} {Q : Exit -> Act -> World -> Prop} {K : Act -> World -> Prop} {i : Nat} {q : Op} {a : Act} {w : World} {S : Nat -> Prop} {ρ β : Nat -> Nat} (hcall : Cb P gl call) (hq : Gh P hi gl nt ops i q) (he : DD call s q = some s1) (hI : Inv hi nt ds w S ρ β s a) (hG : GlOk gl w S)
  (hK : ∀ a1 w1 S1 ρ1 β1,Inv hi nt ds w1 S1 ρ1 β1 s1 a1 -> Stp w S ρ β s.M w1 S1 ρ1 s1.M.H -> Bx w β s.M.B β1 s1.M.B -> K a1 w1) : wpOpIn (FW rd) 0 P ops Q i K a w:=by
 obtain ⟨o,ho,hc,hwf⟩:=hq
 obtain ⟨g,qo,os,hg,rfl,hco⟩:=FK hc
 simp only [DD,AaF] at he
 obtain ⟨b,hb,he1⟩:=he
 have hwant:=GR hI hg hb
 unfold wpOpIn
 simp only [ho,hwant]
 cases b with
 | true =>
  simp only [Ah,AaF] at he1
  obtain ⟨hfr,vs,hvs,⟨v,M'⟩,hev,hset⟩:=he1
  simp only [if_true]
  rcases hco with ⟨az,hco,hQ,hos⟩ | ⟨rfl,rfl⟩
  case inr=>simp [Ai] at hvs; subst hvs; simp [evO,Ap] at hev
  refine (PD hco hQ hcall hI.ok hG (Gn hI hG hos hvs) hev fun w' S' ρ' β' c hn=>?_)
  obtain ⟨h1,h2⟩:=hI.step rfl hwf hfr hn hset
  exact hK _ _ _ _ _ h1 (by rw [h2]; exact hn.stp) (by rw [h2]; exact hn.box)
 | false =>
  simp only [AbO,if_false]
  have hn : Nxt w S ρ β s.M (.p .mv) .un s.M w S ρ β undef:=⟨hI.ok,Stp.refl _ _ _ _ _,.un,fun _ _=>rfl,fun d hd=>.inl ⟨d,hd,rfl⟩⟩
  have hwf' : KF nt ⟨Uy hi o.dst,.p .mv,[],none⟩ = true:=by
   simp only [KF,AaJ] at hwf ⊢
   exact ⟨hwf.1,AbL⟩
  obtain ⟨h1,h2⟩:=hI.step rfl hwf' rfl hn he1
  exact ⟨fun _ _=>AbL,hK _ _ _ _ _ h1 (by rw [h2]; exact Stp.refl _ _ _ _ _) (by rw [h2]; exact Bx.refl)⟩
theorem All2.split {α β : Type} {R : α -> β -> Prop} : ∀ {l l' : List α} {m : List β},All2 R (l ++ l') m -> ∃ m1 m2,m = m1 ++ m2 /\ All2 R l m1 /\ All2 R l' m2
 | [],l',m,h=>⟨[],m,rfl,.nil,h⟩
 | a :: l,l',m,h=>by
  cases h with
  | cons h t =>
   obtain ⟨m1,m2,rfl,h1,h2⟩:=All2.split t
   exact ⟨_ :: m1,m2,rfl,.cons h h1,h2⟩
theorem All2.mem {α β : Type} {R : α -> β -> Prop} {l : List α} {m : List β} (h : All2 R l m) : ∀ y,y ∈ m -> ∃ x,x ∈ l /\ R x y:=by
 induction h with
 | nil=>intro y hy; simp at hy
 | cons h t ih =>
  intro y hy
  rcases Abd.1 hy with rfl | hy
  ·exact ⟨_,by simp,h⟩
  ·obtain ⟨x,hx,hr⟩:=ih y hy
   exact ⟨x,by simp [hx],hr⟩
def OkO (sh : Nat -> Bool) (ops : Array Oper) (cs : List Op) (j k : Nat) : Prop:=j ≠ k /\ (∀ o,ops.toList[j]? = some o -> k ∉ CU o) /\ (Nat.testBit ((Ch [] ops.toList).getD k 0) j = true \/ ∃ x y,nth cs j = some x /\ nth cs k = some y /\ apart sh x y = true)
theorem Wm {ops : Array Oper} {cs : List Op} {Q : Exit -> Act -> World -> Prop} (hcall : Cb P gl call) (hq : AV sh call) (hcs : ∀ i q,nth cs i = some q -> Gh P hi gl nt ops i q) (hlen : cs.length = ops.size) (hB : ∀ k o,ops.toList[k]? = some o -> ∀ e,e ∈ CU o -> e < k) (s' : St) :
  ∀ (fuel : Nat) (listed : Array Bool) (R : List Nat) (qs : List Op) (s : St) (a : Act) (w : World) (S : Nat -> Prop) (ρ β : Nat -> Nat),
   R.length <= fuel -> R.Pairwise (OkO sh ops cs) -> (∀ j,j ∈ R ↔ j < ops.size /\ listed.getD j true = false) -> listed.size = ops.size ->
   (∀ (k : Nat) o,ops.toList[k]? = some o -> listed.getD k false = true -> ∀ e,e ∈ CU o -> listed.getD e false = true) ->
   All2 (fun i q=>nth cs i = some q) R qs -> Bc call qs s = some s' -> Inv hi nt ds w S ρ β s a -> GlOk gl w S ->
   (∀ a' w' S' ρ' β',Inv hi nt ds w' S' ρ' β' s' a' -> Stp w S ρ β s.M w' S' ρ' s'.M.H -> Bx w β s.M.B β' s'.M.B -> Q .normal a' w') -> wpAnyIn (FW rd) 0 P .any ops Q fuel listed a w:=by
 have stop : ∀ (listed : Array Bool) (R : List Nat),R.Pairwise (OkO sh ops cs) -> (∀ j,j ∈ R ↔ j < ops.size /\ listed.getD j true = false) -> listed.size = ops.size -> Region.ready .any ops listed = [] -> R = []:=by
  intro listed R hp hR hsz hr
  cases R with
  | nil=>rfl
  | cons k R =>
   exfalso
   obtain ⟨hk,hku⟩:=(hR k).1 (by simp)
   obtain ⟨o,ho⟩ : ∃ o,ops[k]? = some o:=⟨_,Array.getElem?_eq_getElem hk⟩
   have hmem : k ∈ Region.ready .any ops listed:=mem_ready.2 ⟨hku,o,ho,fun e he hb=>by
    have hbe : e.on ∈ CU o:=JB.2 ⟨e,he,hb,rfl⟩
    have hek:=hB k o (by simpa using ho) e.on hbe
    cases hl : listed.getD e.on false with
    | true=>rfl
    | false =>
     have hin : e.on ∈ k :: R:=(hR e.on).2 ⟨by omega,by
      have hlt : e.on < listed.size:=by omega
      simp [hlt] at hl ⊢
      exact hl⟩
     rcases Abd.1 hin with h | h
     ·omega
     ·exact absurd hbe (((Abw.1 hp).1 _ h).2.1 o (by simpa using ho))⟩
   rw [hr] at hmem
   cases hmem
 intro fuel
 induction fuel with
 | zero =>
  intro listed R qs s a w S ρ β hf hp hR hsz hcl hl he hI hG hQ
  have : R = []:=Abf (by omega)
  subst this
  cases hl
  simp only [Bc,AaG] at he
  subst he
  refine ⟨?_,hQ a w S ρ β hI (Stp.refl _ _ _ _ _) Bx.refl⟩
  cases hr : Region.ready .any ops listed with
  | nil=>rfl
  | cons i l =>
   have hi : i ∈ Region.ready .any ops listed:=by rw [hr]; simp
   obtain ⟨h1,o,h2,_⟩:=mem_ready.1 hi
   have:=(hR i).2 ⟨(Abk.1 h2).1,h1⟩
   cases this
 | succ fuel ih =>
  intro listed R qs s a w S ρ β hf hp hR hsz hcl hl he hI hG hQ
  refine ⟨fun hr=>?_,fun i hi=>?_⟩
  ·have:=stop listed R hp hR hsz hr
   subst this
   cases hl
   simp only [Bc,AaG] at he
   subst he
   exact hQ a w S ρ β hI (Stp.refl _ _ _ _ _) Bx.refl
  ·obtain ⟨hun,o,ho,hedges⟩:=mem_ready.1 hi
   have hil : i < ops.size:=(Abk.1 ho).1
   obtain ⟨pre,post,rfl⟩:=List.append_of_mem ((hR i).2 ⟨hil,hun⟩)
   obtain ⟨qpre,qr,rfl,hl1,hl2⟩:=All2.split hl
   cases hl2 with | @cons _ q _ qpost hqi hl3 =>
   have hbl : ∀ e,e ∈ CU o -> listed.getD e false = true:=fun e he=>by
    obtain ⟨ed,h1,h2,h3⟩:=JB.1 he
    rw [<- h3]
    exact hedges ed h1 h2
   have hap : ∀ x,x ∈ qpre -> apart sh x q = true:=fun x hx=>by
    obtain ⟨j,hj,hjx⟩:=All2.mem hl1 x hx
    have hok:=(AbN.1 hp).2.2 j hj i (by simp)
    have hju:=((hR j).1 (by simp [hj])).2
    have hjs : j < ops.size:=((hR j).1 (by simp [hj])).1
    rcases hok.2.2 with h | ⟨x',y',h1,h2,h3⟩
    ·have:=FU (L:=fun k=>listed.getD k false = true) hcl hB (i + 1) i o (by omega) (by simpa using ho) hbl j h
     exfalso
     have hlt : j < listed.size:=by omega
     simp [hlt] at this hju
     rw [this] at hju
     cases hju
    ·rw [hjx] at h1
     rw [hqi] at h2
     cases h1; cases h2
     exact h3
   have he:=HU hq (fun n d off hn=>(hI.env n _ hn).2.2 d off rfl) hap he
   simp only [Bc,AaF] at he
   obtain ⟨s1,he1,he2⟩:=he
   refine VX hcall (hcs i q hqi) he1 hI hG fun a1 w1 S1 ρ1 β1 hI1 hst hbx=>?_
   have hni : ∀ j,j ∈ pre ++ post ↔ j ∈ pre ++ i :: post /\ j ≠ i:=fun j=>by
    have hp1:=AbN.1 hp
    have hp2:=Abw.1 hp1.2.1
    constructor
    ·intro h
     rcases AbC.1 h with h | h
     ·exact ⟨by simp [h],(hp1.2.2 j h i (by simp)).1⟩
     ·exact ⟨by simp [h],fun e=>(hp2.1 j h).1 e.symm⟩
    ·rintro ⟨h,hne⟩
     simp only [AbC,Abd] at h ⊢
     rcases h with h | h | h
     ·exact .inl h
     ·exact absurd h hne
     ·exact .inr h
   refine ih (listed.setIfInBounds i true) (pre ++ post) (qpre ++ qpost) s1 a1 w1 S1 ρ1 β1 (by simp at hf ⊢; omega) ?_ (fun j=>?_) (by simpa using hsz) ?_ (All2.append hl1 hl3) he2 hI1 (hG.step hst) (fun a' w' S' ρ' β' h1 h2 h3=>hQ a' w' S' ρ' β' h1 (hst.trans hbx h2) (hbx.trans hst.size h3))
   ·have hp1:=AbN.1 hp
    have hp2:=Abw.1 hp1.2.1
    exact AbN.2 ⟨hp1.1,hp2.2,fun x hx y hy=>hp1.2.2 x hx y (by simp [hy])⟩
   ·rw [hni,hR]
    by_cases hji : j = i
    ·subst hji
     have hlt : j < listed.size:=by omega
     simp [hlt]
    ·rw [getD_set_ne true (Ne.symm hji)]
     exact ⟨fun h=>h.1,fun h=>⟨h,hji⟩⟩
   ·intro k o' hk hkl e he
    refine getD_set_true ?_
    by_cases hki : k = i
    ·subst hki
     have : o' = o:=by
      have h2 : ops[k]? = some o':=by simpa using hk
      rw [ho] at h2
      exact (Option.some.inj h2).symm
     subst this
     exact hbl e he
    ·rw [getD_set_ne false (Ne.symm hki)] at hkl
     exact hcl k o' hk hkl e he
theorem NS {α β : Type} {f : α -> Option β} {l : List α} {m : List β} (h : Ai f l = some m) {i : Nat} {y : β} (hy : nth m i = some y) : ∃ x,l[i]? = some x /\ f x = some y:=by
 rw [AK] at hy
 exact (AI h).2 i y hy
theorem PF {ops : Array Oper} {cs : List Op} (hlen : cs.length = ops.size) (hdraw : PG sh ops.toList cs = true) : (∀ k o,ops.toList[k]? = some o -> ∀ e,e ∈ CU o -> e < k) /\ (List.range ops.size).Pairwise (OkO sh ops cs):=by
 simp only [PG,AaJ,AaZ,List.mem_range,Bool.or_eq_true] at hdraw
 have hB : ∀ k o,ops.toList[k]? = some o -> ∀ e,e ∈ CU o -> e < k:=by
  intro k o ho e he
  obtain ⟨h1,_⟩:=hdraw.2 k (by have:=(AaI.1 ho).1; simp at this; omega)
  rw [ho] at h1
  simp only [Option.any_some,AaZ,AbU] at h1
  exact h1 e he
 refine ⟨hB,?_⟩
 have hp : (List.range ops.size).Pairwise (fun j k=>j < k /\ k < ops.size):=by
  refine (List.pairwise_lt_range (n:=ops.size)).imp_of_mem fun {a b} _ hb h=>⟨h,by simpa using hb⟩
 refine hp.imp fun {j k} h=>⟨by omega,fun o ho hk=>?_,?_⟩
 ·have:=hB j o ho k hk
  omega
 ·refine ((hdraw.2 k (by omega)).2 j h.1).imp id fun h=>?_
  split at h
  ·rename_i x y hx hy
   exact ⟨x,y,hx,hy,h⟩
  ·cases h
theorem Jz {f : Nat -> Nat -> Bool} : ∀ {l : List Nat},Mg f l = true -> l.Pairwise (fun j k=>f j k = true)
 | [],_=>.nil
 | j :: r,h=>by
  simp only [Mg,AaJ,AaZ] at h
  exact .cons h.1 (Jz h.2)
theorem NT {ops : Array Oper} {cs : List Op} {l : List Nat} (hlen : cs.length = ops.size) (h : La sh ops.toList cs l = true) :
  (∀ k o,ops.toList[k]? = some o -> ∀ e,e ∈ CU o -> e < k) /\ l.Pairwise (OkO sh ops cs) /\ (∀ j,j ∈ l ↔ j < ops.size) /\ l.length <= ops.size:=by
 simp only [La,AaJ,AaZ,List.mem_range] at h
 obtain ⟨⟨⟨h0,h1⟩,h2⟩,h3⟩:=h
 have h0:=AaY h0
 refine ⟨fun k o ho e he=>?_,(Jz h3).imp fun {j k} h=>?_,fun j=>⟨fun hj=>?_,fun hj=>?_⟩,by omega⟩
 ·have h1:=(h1 k (by have:=(AaI.1 ho).1; simp at this; omega)).1
  rw [ho] at h1
  simp only [Option.any_some,AaZ,AbU] at h1
  exact h1 e he
 ·simp only [Yt,AaJ,Bool.or_eq_true,Abi] at h
  obtain ⟨⟨h1,h2⟩,h3⟩:=h
  refine ⟨fun e=>by subst e; simp at h1,fun o ho hk=>?_,h3.imp id fun h=>?_⟩
  ·rw [ho] at h2
   simp only [Option.any_some,Abi,List.any_eq_false] at h2
   exact h2 k hk (by simp)
  ·split at h
   ·rename_i x y hx hy
    exact ⟨x,y,hx,hy,h⟩
   ·cases h
 ·have:=h2 j hj
  rw [AbU] at this
  omega
 ·have:=(h1 j (by omega)).2
  rw [List.any_eq_true] at this
  obtain ⟨x,hx,e⟩:=this
  rw [AaY e]
  exact hx
theorem NR {id : Nat} {ops : Array Oper} {draw : Bool} {cs : List Op} {Q : Exit -> Act -> World -> Prop} {a : Act} {w : World} {S : Nat -> Prop} {ρ β : Nat -> Nat} (hcall : Cb P gl call) (hq : AV sh call) (hm : P.follows .mixedOrders = true) (hc : Ai (Oa P hi gl ops) ops.toList = some cs)
  (hwf : (Qf sh ops.toList cs draw).all (KF nt) = true) (he : Bc call (Qf sh ops.toList cs draw) s = some s') (hI : Inv hi nt ds w S ρ β s a) (hG : GlOk gl w S)
  (hQ : ∀ a' w' S' ρ' β',Inv hi nt ds w' S' ρ' β' s' a' -> Stp w S ρ β s.M w' S' ρ' s'.M.H -> Bx w β s.M.B β' s'.M.B -> Q .normal a' w') : (Code.region id ops draw).wpIn (FW rd) 0 P Q a w:=by
 have hlen : cs.length = ops.size:=by rw [(AI hc).1]; simp
 have hat : ∀ i q,nth cs i = some q -> KF nt q = true -> Gh P hi gl nt ops i q:=fun i q hiq hw=>by
  obtain ⟨o,ho,hf⟩:=NS hc hiq
  rw [AK] at hiq
  exact ⟨o,by simpa using ho,hf,hw⟩
 have hall : All2 (fun i q=>nth cs i = some q) (List.range ops.size) cs:=All2.ofGet (by simp [hlen]) fun j i hj=>by
  have hjl : j < cs.length:=by have:=(AaI.1 hj).1; simp at this; omega
  rw [List.getElem?_range (by omega)] at hj
  cases hj
  exact ⟨cs[j],AaK hjl,by rw [AK]; exact AaK hjl⟩
 cases draw with
 | false =>
  simp only [Qf] at hwf he
  have hat : ∀ i q,nth cs i = some q -> Gh P hi gl nt ops i q:=fun i q hiq=>hat i q hiq (by
   rw [AK] at hiq
   exact AaZ.1 hwf q (AaS hiq))
  refine wpIn_region (Qb hcall (List.range ops.size) cs ?_ s s' a w S ρ β he hI hG hQ)
  exact All2.ofGet (by simp [hlen]) fun j i hj=>by
   obtain ⟨q,h1,h2⟩:=All2.get hall j i hj
   exact ⟨q,h1,hat i q h2⟩
 | true =>
  simp only [Qf] at hwf he
  have main : ∀ (l : List Nat) (qs : List Op),(∀ k o,ops.toList[k]? = some o -> ∀ e,e ∈ CU o -> e < k) -> l.Pairwise (OkO sh ops cs) -> (∀ j,j ∈ l ↔ j < ops.size) -> l.length <= ops.size -> All2 (fun i q=>nth cs i = some q) l qs ->
    qs.all (KF nt) = true -> Bc call qs s = some s' -> (Code.region id ops true).wpIn (FW rd) 0 P Q a w:=by
   intro l qs hB hp hmem hnd hall hwf he
   have hat : ∀ i q,nth cs i = some q -> Gh P hi gl nt ops i q:=fun i q hiq=>hat i q hiq (by
    have hi : i ∈ l:=(hmem i).2 (by
     rw [AK] at hiq
     have:=(AaI.1 hiq).1
     omega)
    obtain ⟨n,hn⟩:=List.getElem?_of_mem hi
    obtain ⟨q',h1,h2⟩:=All2.get hall n i hn
    rw [hiq] at h2
    cases h2
    exact AaZ.1 hwf q (AaS h1))
   refine wpIn_region_any hm ?_
   have hg : Gw w { w with drawn:=w.drawn + 1 } none:=⟨⟨rfl,rfl,rfl,AaQ _,fun _ _ _=>rfl⟩,fun _=>Nat.le_succ _⟩
   obtain ⟨hok,hst⟩:=hI.ok.grow hg (fun _ h=>h) (fun b h=>.inl h) (fun b h=>hI.ok.lt b h)
   have hI' : Inv hi nt ds { w with drawn:=w.drawn + 1 } S ρ β s a:=⟨hI.sz,hI.df,hok,fun n v hv=>let ⟨h1,h2,h3⟩:=hI.env n v hv; ⟨h1,h2.step hst fun _ _ _=>rfl,h3⟩,fun n v hv=>let ⟨h1,h2⟩:=hI.loc n v hv; ⟨h1,h2.step hst fun _ _ _=>rfl⟩⟩
   refine Wm hcall hq hat hlen hB s' ops.size _ l qs s a _ S ρ β hnd hp (fun j=>?_) (by simp) (fun k o hk hkl=>?_) hall he hI' (hG.step hst) (fun a' w' S' ρ' β' h1 h2 h3=>hQ a' w' S' ρ' β' h1 (hst.trans Bx.refl h2) (Bx.refl.trans hst.size h3))
   ·rw [hmem]
    by_cases h : j < ops.size <;> simp [h]
   ·exfalso
    by_cases h : k < ops.size <;> simp [h] at hkl
  unfold Zg at hwf he
  split at he
  ·rename_i hd
   simp only [hd] at hwf
   obtain ⟨hB,hp⟩:=PF hlen hd
   exact main _ cs hB hp (fun j=>by simp) (by simp) hall hwf he
  ·rename_i hd
   simp only [hd] at hwf
   split at he
   ·rename_i qs hqs
    simp only [hqs] at hwf
    rw [Ah] at hqs
    obtain ⟨hB,hp,hmem⟩:=NT hlen hqs.1
    refine main _ qs hB hp hmem.1 hmem.2 ?_ hwf he
    obtain ⟨g1,g2⟩:=AI hqs.2
    exact All2.ofGet g1 fun j i hj=>by
     have hjl : j < qs.length:=by have:=(AaI.1 hj).1; omega
     obtain ⟨i',h1,h2⟩:=g2 j _ (AaK hjl)
     rw [hj] at h1
     cases h1
     exact ⟨_,AaK hjl,h2⟩
   ·simp [Bc,DD,Ay,AW,Ai,evO,Ap,gd] at he
end
end Go.Mx
/- Code, functions, calls: what the machine returns, the loaded program returns. -/
namespace Go.Mx
section
variable {P : Program} {M M' M1 M2 : Mem} {H H' H2 : Hp} {vs : List V} {v v1 v2 : V} {call : Bp} {s s' s1 s2 : St} {sh : Nat -> Bool} {hi : Hint} {gl : Nat -> Option (List I)} {nt : Nat} {ds : List Deferred} {rd : Option Nat} {dr : Nat -> List Nat} {a : Act} {w w' : World} {S S' : Nat -> Prop} {ρ β ρ' β' : Nat -> Nat}
theorem Mw (n m : Nat) : ∀ (e : Env),BA (rmE e n) m = if m = n then none else BA e m
 | []=>by simp [rmE,BA]
 | (k,x) :: r=>by
  have ih:=Mw n m r
  simp only [rmE]
  cases h : Nat.beq k n with
  | true =>
   have:=AaY h
   subst this
   simp only [BA]
   rw [ih]
   by_cases e : m = k
   ·simp [e]
   ·rw [AaL e,AaL e,UA (fun h=>e h.symm)]
  | false =>
   simp only [BA]
   cases hm : Nat.beq k m with
   | true =>
    have:=AaY hm
    subst this
    have : k ≠ n:=fun e=>by subst e; simp at h
    rw [AaL this]
   | false=>exact ih
theorem FI : ∀ (l : List Nat) (e : Env) (n : Nat) (x : V),BA (Ar l e) n = some x -> BA e n = some x
 | [],e,n,x,h=>h
 | k :: l,e,n,x,h=>by
  have:=FI l (rmE e k) n x h
  rw [Mw] at this
  split at this
  ·cases this
  ·exact this
theorem Inv.drop (h : Inv hi nt ds w S ρ β s a) (l : List Nat) : Inv hi nt ds w S ρ β { s with E:=Ar l s.E } a :=
 ⟨h.sz,h.df,h.ok,fun n v hv=>h.env n v (FI l _ n v hv),h.loc⟩
theorem Inv.clear (h : Inv hi nt ds w S ρ β s a) : Inv hi nt ds w S ρ β { s with L:=[] } a :=
 ⟨h.sz,h.df,h.ok,h.env,fun n v hv=>by simp [BA] at hv⟩
def exOf : Ex -> Exit
 | .nm=>.normal
 | .ex id=>.exit id
 | .ret=>.ret
def MkAt (z : Nat) (w : World) (S : Nat -> Prop) (ρ β : Nat -> Nat) (M : Mem) (D : Nat) : Prop :=
 z <= D /\ w.heap[D]? = some (.deferred (some [])) /\ ¬ S D /\ (∀ r,r < M.H.length -> D ≠ ρ r) /\ ∀ k,(getB M.B k).isSome -> D ≠ β k
def Mks (z : Nat) (w : World) (S : Nat -> Prop) (ρ β : Nat -> Nat) (M : Mem) (ds : List Deferred) : Prop :=
 ∃ Ds : List Nat,ds = Ds.map (fun D=>{ target:=.collected D,args:=#[] }) /\ Ds.Nodup /\ ∀ D,D ∈ Ds -> MkAt z w S ρ β M D
theorem MkAt.step {z D : Nat} {B' : List (Nat × List V)} (h : MkAt z w S ρ β M D) (k : Stp w S ρ β M w' S' ρ' H') (b : Bx w β M.B β' B') : MkAt z w' S' ρ' β' ⟨B',H'⟩ D:=by
 obtain ⟨h0,h1,h2,h3,h4⟩:=h
 have hlt : D < w.heap.size:=(Abk.1 h1).1
 refine ⟨h0,(k.keep D hlt h3 h4).trans h1,fun hs=>?_,fun r hr e=>?_,fun d hd e=>?_⟩
 ·rcases k.news D hs with h | h | ⟨r,hr,e⟩
  ·exact h2 h
  ·omega
  ·exact h3 r hr e
 ·rcases k.rown r hr with ⟨q,hq,e'⟩ | h
  ·exact h3 q hq (e.trans e')
  ·omega
 ·rcases b d hd with ⟨q,hq,e'⟩ | h
  ·exact h4 q hq (e.trans e')
  ·omega
theorem Mks.step {z : Nat} {B' : List (Nat × List V)} {ds : List Deferred} (h : Mks z w S ρ β M ds) (k : Stp w S ρ β M w' S' ρ' H') (b : Bx w β M.B β' B') : Mks z w' S' ρ' β' ⟨B',H'⟩ ds :=
 let ⟨Ds,h1,h2,h3⟩:=h; ⟨Ds,h1,h2,fun D hD=>(h3 D hD).step k b⟩
def Post (hi : Hint) (nt z : Nat) (w : World) (S : Nat -> Prop) (ρ β : Nat -> Nat) (M : Mem) (s' : St) (K : Act -> World -> Prop) : Prop :=
 ∀ a' w' S' ρ' β' ds',Inv hi nt ds' w' S' ρ' β' s' a' -> Mks z w' S' ρ' β' s'.M ds' -> Stp w S ρ β M w' S' ρ' s'.M.H -> Bx w β M.B β' s'.M.B -> K a' w'
theorem Post.step {z : Nat} {K : Act -> World -> Prop} (h : Post hi nt z w S ρ β M s' K) (h1 : Stp w S ρ β M w' S' ρ' M1.H) (h2 : Bx w β M.B β' M1.B) : Post hi nt z w' S' ρ' β' M1 s' K :=
 fun a2 w2 S2 ρ2 β2 ds2 k1 km k2 k3=>h a2 w2 S2 ρ2 β2 ds2 k1 km (h1.trans h2 k2) (h2.trans h1.size k3)
def RdOk (rd : Option Nat) (w : World) (S : Nat -> Prop) (ρ : Nat -> Nat) (H : Hp) : Prop:=∀ l,rd = some l -> ∃ r,RepV w S ρ H (.yl r) (.func (.yield l) #[] #[])
theorem RdOk.step {rd : Option Nat} (h : RdOk rd w S ρ M.H) (k : Stp w S ρ β M w' S' ρ' H') : RdOk rd w' S' ρ' H':=fun l e=>let ⟨r,hr⟩:=h l e; ⟨r,k.vals _ _ hr⟩
theorem RowsTo.off {D : Nat} {o : Obj} (hS : ¬ S D) (hr : ∀ r,r < H.length -> D ≠ ρ r) : RowsTo w S ρ H (w.putObj D o) S ρ H:=by
 have hst : ∀ b,S b -> (w.putObj D o).heap[b]? = w.heap[b]?:=fun b hb=>World.putObj_heap_other (fun e=>hS (e ▸ hb))
 have hrw : ∀ r,r < H.length -> (w.putObj D o).heap[ρ r]? = w.heap[ρ r]?:=fun r h=>World.putObj_heap_other (fun e=>hr r h e.symm)
 refine ⟨hst,fun _ h=>h,fun r ty esz es base fz hrow=>?_,fun r es fz hrow=>⟨rfl,es,fz,hrow⟩,fun r st pd E ps ca cb hrow=>⟨rfl,st,pd,hrow⟩⟩
 have hlt:=(AaI.1 hrow).1
 exact ⟨es,base,fz,hrow,AaQ _,AaQ _,fun b ver _ _ hA=>hA.same hst (fun _ h=>h) (hrw r hlt),fun _=>⟨rfl,fun cur mk h=>⟨cur,mk,by rw [hrw r hlt]; exact h,rfl⟩⟩⟩
theorem Ok.off {D : Nat} {o : Obj} (h : Ok w S ρ β M) (hS : ¬ S D) (hr : ∀ r,r < M.H.length -> D ≠ ρ r) (hb : ∀ k,(getB M.B k).isSome -> D ≠ β k) : Ok (w.putObj D o) S ρ β M:=by
 have hto:=RowsTo.off (w:=w) (o:=o) hS hr
 refine ⟨fun r row hrow=>?_,fun d cs hd=>?_,h.inj,h.bij,h.rb,h.bns,fun b hb=>by simpa using h.lt b hb⟩
 ·have hlt:=(AaI.1 hrow).1
  exact (h.rows r row hrow).same hto rfl (World.putObj_heap_other (fun e=>hr r hlt e.symm)) id
 ·obtain ⟨cur,T,hh,hR⟩:=h.boxes d cs hd
  exact ⟨cur,T,(World.putObj_heap_other (fun e=>hb d (by simp [hd]) e.symm)).trans hh,hR.mono hto⟩
theorem Stp.off {w0 : World} {S0 : Nat -> Prop} {ρ0 β0 : Nat -> Nat} {M0 : Mem} {D : Nat} {o : Obj} (h : Stp w0 S0 ρ0 β0 M0 w S ρ H) (hz : w0.heap.size <= D) (hS : ¬ S D) (hr : ∀ r,r < H.length -> D ≠ ρ r) : Stp w0 S0 ρ0 β0 M0 (w.putObj D o) S ρ H:=by
 have hto:=RowsTo.off (w:=w) (o:=o) hS hr
 exact ⟨fun v c hv=>(h.vals v c hv).mono hto,h.stab,fun b hb=>(World.putObj_heap_other (fun e=>hS (by rw [<- e]; exact h.stab b hb))).trans (h.heap b hb),fun b hlt h1 h2=>(World.putObj_heap_other (by omega)).trans (h.keep b hlt h1 h2),h.news,h.rown,by simpa using h.size,h.os,h.tape,h.output,h.drawn⟩
theorem Cg {b : Frame} {k : List Item} {cs : List Frame} {c : Code} : step P (lone (b.atR a (.code (.scope c) :: k)) cs w) = .next (lone (b.atR a (.code c :: .inScope c :: k)) cs w):=step_lone_go (by simp [stepG,stepG.exec,Frame.atR])
theorem Ij {b : Frame} {k : List Item} {cs : List Frame} {c : Code} : step P (lone (b.atR a (.inScope c :: k)) cs w) = .next (lone (b.atR a k) cs w):=step_lone_go (by simp [stepG,stepG.exec,Frame.atR])
theorem NE {F : Fence} {n : Nat} {c : Code} {Q : Exit -> Act -> World -> Prop} (h : c.wpIn F n P (fun e a w=>(∀ l,e ≠ .goto l) /\ Q e a w) a w) : (Code.scope c).wpIn F n P Q a w:=by
 intro b k cs hro hb hr
 have h0 : (lone (b.atR a (.code (.scope c) :: k)) cs w).fenced P F:=fenced_calm hb hr rfl
 obtain ⟨e,a₁,w₁,⟨hg,hq⟩,harr⟩:=h b (.inScope c :: k) cs hro hb hr
 cases e with
 | normal=>exact ⟨.normal,a₁,w₁,hq,.head h0 Cg (StepsIn.trans harr (.one (fenced_calm hb hr rfl) Ij))⟩
 | exit id =>
  have hx : exitTo id (.inScope c :: k) = exitTo id k:=by simp [exitTo]
  exact ⟨.exit id,a₁,w₁,hq,fun k' hk=>.head h0 Cg (harr.1 k' (by rw [hx]; exact hk)),fun hr' hk=>let ⟨k₁,h1,h2⟩:=harr.2 hr' (by rw [hx]; exact hk); ⟨k₁,h1,.head h0 Cg h2⟩⟩
 | goto l=>exact absurd rfl (hg l)
 | ret=>exact ⟨_,a₁,w₁,hq,.of_steps (.one h0 Cg) harr⟩
 | panic ch=>exact ⟨_,a₁,w₁,hq,.of_steps (.one h0 Cg) harr⟩
 | outgrown=>exact ⟨_,a₁,w₁,hq,.of_steps (.one h0 Cg) harr⟩
theorem Lj (hcall : Cb P gl call) (hq : AV sh call) (hm : P.follows .mixedOrders = true) (hrel : ∀ hi dr a c,cmpC P hi gl sh dr a = some c -> RelC hi dr a c) (n : Nat) (z : Nat) : ∀ (code : Code) (c : C),cmpC P hi gl sh dr code = some c -> wfC nt c = true -> ∀ (s : St) (e : Ex) (s' : St) (a : Act) (w : World) (S : Nat -> Prop) (ρ β : Nat -> Nat) (ds : List Deferred) (Q : Exit -> Act -> World -> Prop),
  evC call n c s = some (e,s') -> Inv hi nt ds w S ρ β s a -> GlOk gl w S -> z <= w.heap.size -> Mks z w S ρ β s.M ds -> RdOk rd w S ρ s.M.H -> Post hi nt z w S ρ β s.M s' (Q (exOf e)) -> code.wpIn (FW rd) 0 P Q a w:=by
 intro code
 induction code with
 | skip =>
  intro c hc _ s e s' a w S ρ β ds Q he hI hG hz hM hR hQ
  simp only [cmpC,AaG] at hc
  subst hc
  simp only [evC,AaG,AaH] at he
  obtain ⟨rfl,rfl⟩:=he
  exact wpIn_skip (hQ a w S ρ β ds hI hM (Stp.refl _ _ _ _ _) Bx.refl)
 | label l =>
  intro c hc _ s e s' a w S ρ β ds Q he hI hG hz hM hR hQ
  simp only [cmpC,AaG] at hc
  subst hc
  simp only [evC,AaG,AaH] at he
  obtain ⟨rfl,rfl⟩:=he
  exact wpIn_label (hQ a w S ρ β ds hI hM (Stp.refl _ _ _ _ _) Bx.refl)
 | scope x ih =>
  intro c hc hwf s e s' a w S ρ β ds Q he hI hG hz hM hR hQ
  simp only [cmpC] at hc
  refine NE (ih c hc hwf s e s' a w S ρ β ds _ he hI hG hz hM hR fun a' w' S' ρ' β' ds' h1 hm' h2 h3=>⟨fun l hl=>(by cases e <;> cases hl),hQ a' w' S' ρ' β' ds' h1 hm' h2 h3⟩)
 | region id ops draw =>
  intro c hc hwf s e s' a w S ρ β ds Q he hI hG hz hM hR hQ
  simp only [cmpC,AaF,AaG] at hc
  obtain ⟨cs,hcs,rfl⟩:=hc
  simp only [evC,AaF,AaG,AaH] at he
  obtain ⟨s1,he,rfl,rfl⟩:=he
  exact NR hcall hq hm hcs hwf he hI hG fun a' w' S' ρ' β' h1 h2 h3=>hQ a' w' S' ρ' β' ds h1.clear (hM.step h2 h3) h2 h3
 | seq x y ihx ihy =>
  intro c hc hwf s e s' a w S ρ β ds Q he hI hG hz hM hR hQ
  simp only [cmpC,AaF,AaG] at hc
  obtain ⟨cx,hcx,cy,hcy,rfl⟩:=hc
  simp only [wfC,AaJ] at hwf
  simp only [evC,AaF] at he
  obtain ⟨⟨e1,s1⟩,he1,he2⟩:=he
  refine wpIn_seq (ihx cx hcx hwf.1 s e1 s1 a w S ρ β ds _ he1 hI hG hz hM hR fun a1 w1 S1 ρ1 β1 ds1 h1 hm1 h2 h3=>?_)
  cases e1 with
  | nm=>exact ihy cy hcy hwf.2 s1 e s' a1 w1 S1 ρ1 β1 ds1 Q he2 h1 (hG.step h2) (AbF hz h2.size) hm1 (hR.step h2) (hQ.step h2 h3)
  | ex id =>
   simp only [AaG,AaH] at he2
   obtain ⟨rfl,rfl⟩:=he2
   exact hQ a1 w1 S1 ρ1 β1 ds1 h1 hm1 h2 h3
  | ret =>
   simp only [AaG,AaH] at he2
   obtain ⟨rfl,rfl⟩:=he2
   exact hQ a1 w1 S1 ρ1 β1 ds1 h1 hm1 h2 h3
 | cond x p q ihp ihq =>
  intro c hc hwf s e s' a w S ρ β ds Q he hI hG hz hM hR hQ
  simp only [cmpC,AaF,AaG] at hc
  obtain ⟨o,ho,cp,hcp,cq,hcq,rfl⟩:=hc
  simp only [wfC,AaJ] at hwf
  simp only [evC,AaF] at he
  obtain ⟨v,hv,he⟩:=he
  have hr:=Qd hI hG ho hv
  split at he
  ·rcases Mf hcp with hcp | rfl
   ·exact wpIn_cond_true (BH (RepX.toV rfl hr)) (ihp cp hcp hwf.1 s e s' a w S ρ β ds Q he hI hG hz hM hR hQ)
   ·simp [SW,evC,Bc,DD,Ay,AW,gd,Ai,evO,Ap] at he
  ·rcases Mf hcq with hcq | rfl
   ·exact wpIn_cond_false (BH (RepX.toV rfl hr)) (ihq cq hcq hwf.2 s e s' a w S ρ β ds Q he hI hG hz hM hR hQ)
   ·simp [SW,evC,Bc,DD,Ay,AW,gd,Ai,evO,Ap] at he
  ·cases he
 | block id x ih =>
  intro c hc hwf s e s' a w S ρ β ds Q he hI hG hz hM hR hQ
  simp only [cmpC,AaF,AaG] at hc
  obtain ⟨cx,hcx,rfl⟩:=hc
  simp only [evC,AaF] at he
  obtain ⟨⟨e1,s1⟩,he1,he2⟩:=he
  refine wpIn_block (ih cx hcx hwf s e1 s1 a w S ρ β ds _ he1 hI hG hz hM hR fun a1 w1 S1 ρ1 β1 ds1 h1 hm1 h2 h3=>?_)
  cases e1 with
  | nm =>
   simp only [AaG,AaH] at he2
   obtain ⟨rfl,rfl⟩:=he2
   exact hQ a1 w1 S1 ρ1 β1 ds1 h1 hm1 h2 h3
  | ex j =>
   simp only at he2
   show Exit.inBlock id Q (.exit j) a1 w1
   simp only [Exit.inBlock]
   split at he2
   ·rename_i hb
    have:=AaY hb
    subst this
    simp only [AaG,AaH] at he2
    obtain ⟨rfl,rfl⟩:=he2
    rw [AaN rfl]
    exact hQ a1 w1 S1 ρ1 β1 ds1 h1 hm1 h2 h3
   ·rename_i hb
    have : j ≠ id:=fun e=>by subst e; simp at hb
    simp only [AaG,AaH] at he2
    obtain ⟨rfl,rfl⟩:=he2
    rw [AaL this]
    exact hQ a1 w1 S1 ρ1 β1 ds1 h1 hm1 h2 h3
  | ret =>
   simp only [AaG,AaH] at he2
   obtain ⟨rfl,rfl⟩:=he2
   exact hQ a1 w1 S1 ρ1 β1 ds1 h1 hm1 h2 h3
 | loop x ih =>
  intro c hc hwf s e s' a w S ρ β ds Q he hI hG hz hM hR hQ
  simp only [cmpC,AaF,AaG] at hc
  obtain ⟨cx,hcx,rfl⟩:=hc
  simp only [evC] at he
  refine wpIn_loop_rounds n ?_
  have key : ∀ (k : Nat) (s : St) (a : Act) (w : World) (S : Nat -> Prop) (ρ β : Nat -> Nat) (ds : List Deferred),EZ (fun t=>evC call n cx { t with E:=Ar (dr ((Di x).getD 0)) t.E }) k s = some (e,s') -> Inv hi nt ds w S ρ β s a -> GlOk gl w S -> z <= w.heap.size -> Mks z w S ρ β s.M ds -> RdOk rd w S ρ s.M.H ->
    Post hi nt z w S ρ β s.M s' (Q (exOf e)) -> Code.roundsIn (FW rd) 0 P x Q k a w:=by
   intro k
   induction k with
   | zero=>intro s a w S ρ β ds he; simp [EZ] at he
   | succ k ihk =>
    intro s a w S ρ β ds he hI hG hz hM hR hQ
    simp only [EZ,AaF] at he
    obtain ⟨⟨e1,s1⟩,he1,he2⟩:=he
    rw [roundsIn_succ]
    refine ih cx hcx hwf _ e1 s1 a w S ρ β ds _ he1 (hI.drop _) hG hz hM hR fun a1 w1 S1 ρ1 β1 ds1 h1 hm1 h2 h3=>?_
    cases e1 with
    | nm=>exact ihk s1 a1 w1 S1 ρ1 β1 ds1 he2 h1 (hG.step h2) (AbF hz h2.size) hm1 (hR.step h2) (hQ.step h2 h3)
    | ex id =>
     simp only [AaG,AaH] at he2
     obtain ⟨rfl,rfl⟩:=he2
     exact hQ a1 w1 S1 ρ1 β1 ds1 h1 hm1 h2 h3
    | ret =>
     simp only [AaG,AaH] at he2
     obtain ⟨rfl,rfl⟩:=he2
     exact hQ a1 w1 S1 ρ1 β1 ds1 h1 hm1 h2 h3
  exact key n s a w S ρ β ds he hI hG hz hM hR hQ
 | rangeFunc g ps x y ihx ihy =>
  intro c hc hwf s e s' a w S ρ β ds Q he hI hG hz hM hR hQ
  simp only [cmpC,AaF,Ah,AaG] at hc
  obtain ⟨og,hog,ca,hca,cb,hcb,hps,rfl⟩:=hc
  simp only [wfC,AaJ,AaZ,AbU] at hwf
  obtain ⟨hpl,hwa,hwb⟩:=hwf
  simp [evC] at he
 | exit id =>
  intro c hc _ s e s' a w S ρ β ds Q he hI hG hz hM hR hQ
  simp only [cmpC,AaG] at hc
  subst hc
  simp only [evC,AaG,AaH] at he
  obtain ⟨rfl,rfl⟩:=he
  exact wpIn_exit (hQ a w S ρ β ds hI hM (Stp.refl _ _ _ _ _) Bx.refl)
 | ret =>
  intro c hc _ s e s' a w S ρ β ds Q he hI hG hz hM hR hQ
  simp only [cmpC,AaG] at hc
  subst hc
  simp only [evC,AaG,AaH] at he
  obtain ⟨rfl,rfl⟩:=he
  exact wpIn_ret (hQ a w S ρ β ds hI hM (Stp.refl _ _ _ _ _) Bx.refl)
 | _ =>
  intro c hc _ s e s' a w S ρ β ds Q he
  simp only [cmpC,AaG] at hc
  subst hc
  simp [evC,Bc,DD,Ay,AW,gd,Ai,evO,Ap] at he
/- The frame of a function. -/
theorem Is : ∀ {n : Nat},PT hi n = true -> ∀ k,k < n -> hi.loc k = false
 | 0,_,k,h=>by omega
 | n + 1,h,k,hk=>by
  simp only [PT,AaJ,Abi] at h
  by_cases e : k = n
  ·rw [e]; exact h.1
  ·exact Is h.2 k (by omega)
theorem FH : ∀ (vs : List V) (k n : Nat) (x : V),BA (Cw k vs) n = some x -> k <= n /\ vs[n - k]? = some x
 | [],k,n,x,h=>by simp [Cw,BA] at h
 | v :: vs,k,n,x,h=>by
  simp only [Cw,BA] at h
  split at h
  ·rename_i hb
   have:=AaY hb
   subst this
   exact ⟨AaQ _,by simpa using h⟩
  ·rename_i hb
   obtain ⟨h1,h2⟩:=FH vs (k + 1) n x h
   refine ⟨by omega,?_⟩
   rw [show n - k = (n - (k + 1)) + 1 by omega]
   simpa using h2
theorem Mj {x : V} (h : AE x = true) : ∀ d off,x ≠ .fa d off:=fun d off e=>by subst e; simp [AE] at h
theorem Ok.back {B B' : List (Nat × List V)} {β0 : Nat -> Nat} (h : Ok w S ρ β ⟨B,H⟩) (h' : Ok w' S' ρ' β' ⟨B',H'⟩) (k : Stp w S ρ β0 ⟨[],H⟩ w' S' ρ' H') : Ok w' S' ρ' β ⟨B,H'⟩ /\ Stp w S ρ β ⟨B,H⟩ w' S' ρ' H':=by
 have hb0 : ∀ d,¬ (getB ([] : List (Nat × List V)) d).isSome:=fun d=>by simp [getB]
 have nb : ∀ r d,r < H'.length -> (getB B d).isSome -> ρ' r ≠ β d:=fun r d hr hd e=>by
  rcases k.rown r hr with ⟨q,hq,e'⟩ | e'
  ·exact h.rb q d hq hd (e'.symm.trans e)
  ·have:=h.blt hd; omega
 refine ⟨⟨h'.rows,fun d cs hd=>?_,h'.inj,h.bij,fun r d h1 h2=>nb r d h1 h2,fun d hd hs=>?_,h'.lt⟩,⟨k.vals,k.stab,k.heap,fun b hb hr _=>k.keep b hb hr (fun d hd=>absurd hd (hb0 d)),k.news,k.rown,k.size,k.os,k.tape,k.output,k.drawn⟩⟩
 ·have hds : (getB B d).isSome:=by rw [show getB B d = some cs from hd]; rfl
  obtain ⟨cur,T,hh,hr⟩:=h.boxes d cs hd
  exact ⟨cur,T,by rw [k.keep _ (h.blt hds) (fun r hr e=>h.rb r d hr hds e.symm) (fun d hd=>absurd hd (hb0 d))]; exact hh,k.list hr⟩
 ·rcases k.news _ hs with hs | hs | ⟨r,hr,e⟩
  ·exact h.bns d hd hs
  ·have:=h.blt hd; omega
  ·exact h.rb r d hr hd e.symm
def resM (tmps : Array Value) : ResultVar -> Sem Value
 | .tmp t=>pure (tmps.getD t undef)
 | .cell x t=>do loadVar t (<- asAddr (tmps.getD x undef))
theorem NN (fn : Func) (tmps : Array Value) : results fn tmps = (do
  let vs <- fn.results.mapM (resM tmps)
  pure (if h : vs.size = 1 then vs[0] else .tuple vs)):=by
 unfold results
 congr 2
theorem SH {r : ResultVar} {q : Res} (hc : Wn P hi r = some q) (hI : Inv hi nt ds w S ρ β s a) (he : NQ s q = some v) :
  ∃ c,(resM a.tmps r).run P w = .ok c w /\ RepV w S ρ s.M.H v c:=by
 cases r with
 | tmp t =>
  simp only [Wn,Ah,AaG] at hc
  obtain ⟨_,rfl⟩:=hc
  simp only [NQ,AaF,Ah,AaG] at he
  obtain ⟨x,hx,hn,rfl⟩:=he
  exact ⟨_,rfl,RepX.toV hn (hI.env _ _ hx).2.1⟩
 | cell x t =>
  simp only [Wn,Ah,AaF,Bool.or_eq_true,AaV,AaG] at hc
  obtain ⟨_,ag,hag,z,hz,hs1,rfl⟩:=hc
  obtain ⟨i,hi,rfl⟩:=AB.1 hz
  simp only [NQ,AaF] at he
  obtain ⟨y,hy,cs,hcs,hvo⟩:=he
  obtain ⟨b,off,cells,hx,hl,hR,hcell,_⟩:=GG hI.ok (hI.env _ _ hy).2.1 hcs
  obtain ⟨c,hrun,hrep⟩:=GB (P:=P) (w:=w) hag hi hs1 hl hcell hR hvo
  exact ⟨c,by simp only [resM,Sem.run_bind,hx,asAddr,Sem.run_pure,Result.andThen_ok]; exact hrun,hrep⟩
theorem Jv (hI : Inv hi nt ds w S ρ β s a) : ∀ {rs : List ResultVar} {qs : List Res} {vs : List V},Ai (Wn P hi) rs = some qs -> Ai (NQ s) qs = some vs ->
  ∃ cs,(rs.mapM (resM a.tmps)).run P w = .ok cs w /\ RepL w S ρ s.M.H vs cs
 | [],qs,vs,h1,h2=>by
  simp only [Ai,AaG] at h1
  subst h1
  simp only [Ai,AaG] at h2
  subst h2
  exact ⟨[],by simp,.nil⟩
 | r :: rs,qs,vs,h1,h2=>by
  simp only [Ai,AaF,AaG] at h1
  obtain ⟨q,hq,l,hl,rfl⟩:=h1
  simp only [Ai,AaF,AaG] at h2
  obtain ⟨v,hv,l',hl',rfl⟩:=h2
  obtain ⟨c,hrun,hrep⟩:=SH hq hI hv
  obtain ⟨cs,hruns,hreps⟩:=Jv hI hl hl'
  refine ⟨c :: cs,?_,.cons hrep hreps⟩
  simp only [List.mapM_cons,Sem.run_bind,hrun,Result.andThen_ok,hruns,Sem.run_pure]
theorem UZ {vs : List V} {cs : List Value} (h : RepL w S ρ H vs cs) : RepV w S ρ H (tup vs) (if h : cs.toArray.size = 1 then cs.toArray[0] else .tuple cs.toArray):=by
 have hl:=h.1
 match vs,cs,h,hl with
 | [],[],h,_=>exact RepL.toTu (cs:=#[]) .nil
 | [v],[c],h,_=>exact h.head
 | _ :: _ :: _,c1 :: c2 :: cs,h,_ =>
  have : ¬ (c1 :: c2 :: cs).toArray.size = 1:=by simp
  rw [dif_neg this]
  exact RepL.toTu (by simpa using h)
theorem GD {fn : Func} {qs : List Res} (hI : Inv hi nt ds w S ρ β s a) (h1 : Ai (Wn P hi) fn.results.toList = some qs) (h2 : DM s qs = some v) : ∃ c,(results fn a.tmps).run P w = .ok c w /\ RepV w S ρ s.M.H v c:=by
 simp only [DM,AaF,AaG] at h2
 obtain ⟨vs,hvs,rfl⟩:=h2
 obtain ⟨cs,hrun,hrep⟩:=Jv hI h1 hvs
 refine ⟨_,?_,UZ hrep⟩
 rw [NN,Array.mapM_eq_mapM_toList,Sem.run_bind,Sem.run_map,hrun]
 rfl
theorem Qa {vs : List V} (h : vs.all AE = true) {n : Nat} {x : V} (hx : vs[n]? = some x) : AE x = true:=AaZ.1 h x (AaS hx)
theorem RepX.off {D : Nat} {o : Obj} {x : V} {c : Value} (h : RepX w S ρ β H x c) (hS : ¬ S D) (hr : ∀ r,r < H.length -> D ≠ ρ r) : RepX (w.putObj D o) S ρ β H x c:=by
 cases x with
 | fa d off=>exact h
 | _=>exact RepV.mono (RowsTo.off hS hr) h
theorem Inv.off {z D : Nat} {o : Obj} (h : Inv hi nt ds w S ρ β s a) (hm : MkAt z w S ρ β s.M D) : Inv hi nt ds (w.putObj D o) S ρ β s a :=
 ⟨h.sz,h.df,h.ok.off hm.2.2.1 hm.2.2.2.1 hm.2.2.2.2,fun n v hv=>let ⟨h1,h2,h3⟩:=h.env n v hv; ⟨h1,h2.off hm.2.2.1 hm.2.2.2.1,h3⟩,fun n v hv=>let ⟨h1,h2⟩:=h.loc n v hv; ⟨h1,h2.off hm.2.2.1 hm.2.2.2.1⟩⟩
theorem FF {fn : Func} {R : Ending -> World -> Prop} {w0 : World} {S0 : Nat -> Prop} {ρ0 β0 : Nat -> Nat} {M0 : Mem} : ∀ (Ds : List Nat) (w : World),Ds.Nodup -> (∀ D,D ∈ Ds -> MkAt w0.heap.size w S ρ β s.M D) -> Inv hi nt ds w S ρ β s a -> Stp w0 S0 ρ0 β0 M0 w S ρ s.M.H ->
  (∀ w,Inv hi nt ds w S ρ β s a -> Stp w0 S0 ρ0 β0 M0 w S ρ s.M.H -> ∃ v,(results fn a.tmps).run P w = .ok v w /\ R (.returned v) w) ->
  LeavesInM Fence.wide 0 P fn a.tmps R (Ds.map fun D=>{ target:=.collected D,args:=#[] }) .returning w
 | [],w,_,_,hI,hst,hR=>hR w hI hst
 | D :: Ds,w,hnd,hm,hI,hst,hR=>by
  have hD:=hm D (by simp)
  have hnd:=List.nodup_cons.1 hnd
  refine ⟨by simp,.inl ⟨D,_,rfl,run_takeDeferred hD.2.1,FF Ds _ hnd.2 (fun D' hD'=>?_) (hI.off hD) (hst.off hD.1 hD.2.2.1 hD.2.2.2.1) hR⟩⟩
  have h':=hm D' (by simp [hD'])
  exact ⟨h'.1,(World.putObj_heap_other (fun e=>hnd.1 (by rw [<- e]; exact hD'))).trans h'.2.1,h'.2.2⟩
theorem Qc {f : Nat} {func : Func} {fn : F} {n : Nat} {args : Array Value} {B : List (Nat × List V)} (hf : P.funcs[f]? = some func) (hc : XM P hi gl sh dr func = some fn) (hcall : Cb P gl call) (hq : AV sh call) (hm : P.follows .mixedOrders = true) (hrel : ∀ hi dr a c,cmpC P hi gl sh dr a = some c -> RelC hi dr a c)
  (he : evF call n fn vs H = some (v,H')) (hok : Ok w S ρ β ⟨B,H⟩) (hG : GlOk gl w S) (hv : All2 (RepX w S ρ β H) vs args.toList) : Calls P f args w (OM w S ρ β ⟨B,H⟩ v H'):=by
 simp only [XM,AaF,Ah,AaJ,Abv,AaG] at hc
 obtain ⟨code,hbody,c,hcc,rs,hrs,⟨⟨hlow,hnt⟩,hwf⟩,rfl⟩:=hc
 simp only [evF,Ah,AaJ,AaV,AaF] at he
 obtain ⟨⟨hna,hlen⟩,⟨e,s'⟩,hev,he⟩:=he
 have hsz : args.size = func.params.size + func.nfree:=by have:=All2.length hv; simp at this; omega
 have hI : Inv hi func.ntmps [] w S ρ β ⟨Cw 0 vs,[],⟨[],H⟩⟩ { tmps:=args ++ Array.replicate (func.ntmps - args.size) undef,defers:=[] }:=by
  refine ⟨by simp; omega,rfl,⟨hok.rows,fun d cs hd=>by simp [getB] at hd,hok.inj,fun d d' hd=>by simp [getB] at hd,fun r d _ hd=>by simp [getB] at hd,fun d hd=>by simp [getB] at hd,hok.lt⟩,fun k x hg=>?_,fun k x hg=>by simp [BA] at hg⟩
  obtain ⟨_,hx⟩:=FH vs 0 k x hg
  simp only [Nat.sub_zero] at hx
  obtain ⟨c,hc,hr⟩:=All2.get hv k x hx
  have hk : k < vs.length:=(AaI.1 hx).1
  have hna':=Qa hna hx
  refine ⟨Is hlow k (by omega),?_,fun d off e=>absurd e (Mj hna' d off)⟩
  have hk2 : k < args.size:=by have:=All2.length hv; simp at this; omega
  have : (args ++ Array.replicate (func.ntmps - args.size) undef).getD k undef = c:=by
   have h1 : args[k]? = some c:=by simpa using hc
   simp [Array.getElem?_append,hk2,h1]
   simpa [hk2] using h1
  rw [this]
  exact RepX.ofV (RepX.toV hna' hr)
 refine (callsIn_wide (n:=0)).1 (callsIn_of_wp_marks hf hbody AbL (Lj (rd:=none) hcall hq hm hrel n w.heap.size code c hcc hwf _ e s' _ w S ρ β [] _ hev hI hG (AaQ _) ⟨[],rfl,List.nodup_nil,fun D hD=>by simp at hD⟩ (fun l h=>by cases h) ?_) rfl)
 intro a' w' S' ρ' β' ds' h1 hmk h2 h3
 have fin : (DM s' rs).bind (fun v=>some (v,s'.M.H)) = some (v,H') -> LeavesInM Fence.wide 0 P func a'.tmps (OM w S ρ β ⟨B,H⟩ v H') a'.defers .returning w':=fun he=>by
  simp only [AaF,AaG,AaH] at he
  obtain ⟨x,hx,rfl,rfl⟩:=he
  obtain ⟨Ds,hds,hnd,hmk⟩:=hmk
  rw [h1.df,hds]
  refine FF Ds w' hnd hmk h1 h2 fun w2 h1 h2=>?_
  obtain ⟨c,hrun,hrep⟩:=GD h1 hrs hx
  obtain ⟨k1,k2⟩:=Ok.back hok (B':=s'.M.B) (H':=s'.M.H) h1.ok h2
  exact ⟨c,hrun,c,S',ρ',rfl,k1,k2,hrep⟩
 cases e with
 | nm=>exact fin he
 | ret=>exact fin he
 | ex id=>cases he
/- A pure call. -/
theorem Pb {n : Nat} {x : V} {i : I} (h : view n H x = some i) : AE x = true:=by
 cases n with
 | zero=>simp [view] at h
 | succ n=>cases x <;> first | rfl | (simp [view] at h)
theorem NG {R : Nat -> Prop} {B : List (Nat × List V)} {is : List I} {args : List Value} (hok : Ok w S ρ β ⟨B,H⟩) (hcl : OJ R H) (h : Ai (view 20 H) vs = some is) (hin : ∀ x,x ∈ vs -> InN R 20 x) (hv : All2 (RepX w S ρ β H) vs args) {ρ0 β0 : Nat -> Nat} : All2 (RepX w (Sof S ρ H R) ρ0 β0 []) (is.map .m) args:=by
 induction hv generalizing is with
 | nil =>
  simp only [Ai,AaG] at h
  subst h
  exact .nil
 | cons hx t ih =>
  simp only [Ai,AaF,AaG] at h
  obtain ⟨i,hi,l,hl,rfl⟩:=h
  exact .cons (RepX.ofV (.m (EP hok hcl 20 _ _ i hi (hin _ (by simp)) (RepX.toV (Pb hi) hx)))) (ih hl fun x hx=>hin x (by simp [hx]))
mutual
theorem Iz {S2 : Nat -> Prop} {w2 : World} : ∀ (i : I) {c : Value},JP i = true -> RepI w S i c -> RepI w2 S2 i c
 | .b x,c,_,h=>by cases h; exact .b _
 | .i k n,c,_,h=>by cases h; exact .i _ _
 | .s x,c,_,h=>by cases h; exact .s _ _ ‹_›
 | .nl k,c,_,h=>by cases h; exact .nlp; exact .nlm; exact .nlf; exact .nli; exact .nls
 | .er,c,_,h=>by cases h; exact .er _ _
 | .ag cs,c,hf,h=>by
  cases h with | ag _ az hl cf hc hr =>
  exact .ag cs az hl cf hc (JN cs hf hr)
 | .sl _,c,hf,_=>by simp [JP] at hf
 | .pt _,c,hf,_=>by simp [JP] at hf
 | .mp _,c,hf,_=>by simp [JP] at hf
 | .fn _ _,c,hf,_=>by simp [JP] at hf
theorem JN {S2 : Nat -> Prop} {w2 : World} : ∀ (l : List I) {cf : Nat -> Value},MD l = true -> (∀ (j : Nat) x,l[j]? = some x -> RepI w S x (cf j)) -> ∀ (j : Nat) x,l[j]? = some x -> RepI w2 S2 x (cf j)
 | [],cf,_,_=>fun j x hj=>by simp at hj
 | y :: l,cf,hf,h=>fun j x hj=>by
  simp only [MD,AaJ] at hf
  cases j with
  | zero =>
   simp only [List.getElem?_cons_zero,AaG] at hj
   subst hj
   exact Iz y hf.1 (h 0 y rfl)
  | succ j=>exact JN l (cf:=fun k=>cf (k + 1)) hf.2 (fun k z hz=>h (k + 1) z (by simpa using hz)) j x (by simpa using hj)
end
theorem Jg {B : List (Nat × List V)} {c : Value} {r : V} (hok : Ok w S ρ β ⟨B,H⟩) (h : DK H v = some r) (hv : RepV w S ρ H v c) {ρ0 : Nat -> Nat} {H0 : Hp} : RepV w (Sof S ρ H fun _=>True) ρ0 H0 r c:=by
 have one : ∀ {x : V} {i : I} {c : Value},view 20 H x = some i -> RepV w S ρ H x c -> RepI w (Sof S ρ H fun _=>True) i c:=fun h k=>EP hok HC 20 _ _ _ h (GP 20 _) k
 unfold DK at h
 split at h
 ·simp only [AaF,AaG] at h
  obtain ⟨l,hl,rfl⟩:=h
  obtain ⟨cs,rfl,hcs⟩:=hv.tuL
  obtain ⟨g1,g2⟩:=AI hl
  refine RepL.toTu ⟨by rw [Abe,g1]; exact hcs.1,fun j y hj=>?_⟩
  rw [Abb] at hj
  obtain ⟨z,hz,rfl⟩:=Abh.1 hj
  obtain ⟨x,hx,hf⟩:=g2 j z hz
  obtain ⟨c,hc,hr⟩:=hcs.2 j x hx
  exact ⟨c,hc,.m (one hf hr)⟩
 ·simp only [AaF,AaG] at h
  obtain ⟨x,hx,rfl⟩:=h
  exact .m (one hx hv)
def YP : V -> Prop
 | .m _=>True
 | .tu vs=>∃ l : List I,vs = l.map .m
 | _=>False
theorem Jh {r : V} (h : DK H v = some r) : YP r:=by
 unfold DK at h
 split at h
 ·simp only [AaF,AaG] at h
  obtain ⟨l,_,rfl⟩:=h
  exact ⟨l,rfl⟩
 ·simp only [AaF,AaG] at h
  obtain ⟨x,_,rfl⟩:=h
  trivial
theorem GQ {r : V} {c : Value} {S2 : Nat -> Prop} {ρ0 : Nat -> Nat} {H0 : Hp} (hi : YP r) (h : RepV w S ρ H r c) (k : ∀ (x : I) c,RepI w S x c -> RepI w S2 x c) : RepV w S2 ρ0 H0 r c:=by
 cases r with
 | m x=>exact .m (k x c h.imm)
 | tu vs =>
  obtain ⟨l,rfl⟩:=hi
  obtain ⟨cs,rfl,hcs⟩:=h.tuL
  obtain ⟨h1,cf,hcf,hr⟩:=hcs.toI
  refine RepL.toTu (RepL.ofI (by simpa using h1) cf (fun j x hj=>by simpa using hcf j x hj) fun j x hj=>k _ _ (hr j x hj))
 | _=>exact hi.elim
theorem NY {r : V} {c : Value} {S2 : Nat -> Prop} {ρ0 : Nat -> Nat} {H0 : Hp} (hi : YP r) (hf : Hy r = true) (h : RepV w S ρ H r c) : RepV w S2 ρ0 H0 r c:=by
 cases r with
 | m x=>exact .m (Iz x hf h.imm)
 | tu vs =>
  obtain ⟨l,rfl⟩:=hi
  obtain ⟨cs,rfl,hcs⟩:=h.tuL
  obtain ⟨h1,cf,hcf,hr⟩:=hcs.toI
  refine RepL.toTu (RepL.ofI (by simpa using h1) cf (fun j x hj=>by simpa using hcf j x hj) fun j x hj=>Iz x ?_ (hr j x hj))
  simp only [Hy,List.all_map,AaZ] at hf
  exact hf x (AaS hj)
 | _=>exact hi.elim
theorem Qp {f : Nat} {func : Func} {fn : F} {n : Nat} {args : Array Value} {B : List (Nat × List V)} (hf : P.funcs[f]? = some func) (hc : XM P hi gl sh dr func = some fn) (hcall : Cb P gl call) (hq : AV sh call) (hm : P.follows .mixedOrders = true) (hrel : ∀ hi dr a c,cmpC P hi gl sh dr a = some c -> RelC hi dr a c)
  (he : EF call n fn vs H = some (v,H')) (hok : Ok w S ρ β ⟨B,H⟩) (hG : GlOk gl w S) (hv : All2 (RepX w S ρ β H) vs args.toList) : Calls P f args w (OM w S ρ β ⟨B,H⟩ v H'):=by
 simp only [EF,AaF] at he
 obtain ⟨is,his,⟨p1,p2⟩,hev,r,hr,he⟩:=he
 have main : ∀ (R : Nat -> Prop),OJ R H -> (∀ x,x ∈ vs -> InN R 20 x) ->
   Calls P f args w fun e w'=>∃ c S1 ρ1 β1,e = .returned c /\ Ok w' S1 ρ1 β1 ⟨[],p2⟩ /\ Stp w (Sof S ρ H R) id id ⟨[],[]⟩ w' S1 ρ1 p2 /\ RepV w' (Sof S1 ρ1 p2 fun _=>True) ρ1 p2 r c:=fun R hcl hin=>by
  have hokc : Ok w (Sof S ρ H R) id id ⟨[],[]⟩:=⟨fun r row h=>by simp at h,fun d cs h=>by simp [getB] at h,fun r r' h=>by simp at h,fun d d' h=>by simp [getB] at h,fun r d h=>by simp at h,fun d h=>by simp [getB] at h,fun b hb=>by
   rcases hb with hb | ⟨r,_,hr,e⟩
   ·exact hok.lt b hb
   ·rw [e]; exact hok.rlt hr⟩
  refine (Qc hf hc hcall hq hm hrel hev hokc (fun g cs hg=>(hG g cs hg).mono (fun _ _=>rfl) fun _ h=>.inl h) (NG hok hcl his hin hv)).mono fun e w' hh=>?_
  obtain ⟨c,S1,ρ1,rfl,k1,k2,k3⟩:=hh
  exact ⟨c,S1,ρ1,_,rfl,k1,k2,Jg k1 hr k3⟩
 have grown : ∀ {R : Nat -> Prop} {w' : World} {S1 : Nat -> Prop} {ρ1 : Nat -> Nat},Stp w (Sof S ρ H R) id id ⟨[],[]⟩ w' S1 ρ1 p2 -> Gw w w' none:=fun k =>
  ⟨⟨k.os,k.tape,k.output,k.size,fun b hb _=>k.keep b hb (fun r hr=>by simp at hr) (fun d hd=>by simp [getB] at hd)⟩,k.drawn⟩
 have himm:=Jh hr
 have leave : ∀ {S0 : Nat -> Prop} {K : Hp} {R : Nat -> Prop} {w' : World} {S1 : Nat -> Prop} {ρ1 β1 : Nat -> Nat},Ok w S0 ρ β ⟨B,K⟩ -> Stp w (Sof S ρ H R) id id ⟨[],[]⟩ w' S1 ρ1 p2 -> Ok w' S1 ρ1 β1 ⟨[],p2⟩ ->
   Ok w' (fun b=>S0 b \/ (Sof S1 ρ1 p2 (fun _=>True) b /\ w.heap.size <= b)) ρ β ⟨B,K⟩ /\ Stp w S0 ρ β ⟨B,K⟩ w' (fun b=>S0 b \/ (Sof S1 ρ1 p2 (fun _=>True) b /\ w.heap.size <= b)) ρ K:=fun {S0 K R w' S1 ρ1 β1} hok0 k2 k1 =>
  Ok.grow hok0 (grown k2) (fun b h=>.inl h) (fun b h=>h.imp id (·.2)) (fun b h=>by
   rcases h with h | ⟨h | ⟨r,_,hr,e⟩,_⟩
   ·exact AbY (hok0.lt b h) k2.size
   ·exact k1.lt b h
   ·rw [e]; exact k1.rlt hr)
 have inS : ∀ {S0 : Nat -> Prop} {R : Nat -> Prop} {w' : World} {S1 : Nat -> Prop} {ρ1 : Nat -> Nat},(∀ b,Sof S ρ H R b -> S0 b) -> Stp w (Sof S ρ H R) id id ⟨[],[]⟩ w' S1 ρ1 p2 -> ∀ b,Sof S1 ρ1 p2 (fun _=>True) b -> S0 b \/ (Sof S1 ρ1 p2 (fun _=>True) b /\ w.heap.size <= b):=fun h0 k2 b hb=>by
  have hb0:=hb
  rcases hb with hb | ⟨r,_,hr,e⟩
  ·rcases k2.news b hb with h | h | ⟨r,hr,_⟩
   ·exact .inl (h0 b h)
   ·exact .inr ⟨hb0,h⟩
   ·simp at hr
  ·rcases k2.rown r hr with ⟨q,hq,_⟩ | h
   ·simp at hq
   ·exact .inr ⟨hb0,by omega⟩
 split at he
 ·rename_i hrs
  simp only [Ah,AaG,AaH] at he
  obtain ⟨hsh,rfl,rfl⟩:=he
  refine (main (· ∈ []) (fun r row h=>by simp at h) fun x hx=>Fw (AaZ.1 hsh x hx) (fun r hr=>by rw [<- hrs]; exact List.mem_flatMap.2 ⟨x,hx,hr⟩) 20).mono fun e w' hh=>?_
  obtain ⟨c,S1,ρ1,β1,rfl,k1,k2,k3⟩:=hh
  obtain ⟨m1,m2⟩:=leave hok k2 k1
  refine ⟨c,_,ρ,rfl,m1,m2,GQ himm k3 fun x c h=>h.mono (fun _ _=>rfl) (inS (fun b hb=>?_) k2)⟩
  rcases hb with hb | ⟨r,hr,_⟩
  ·exact hb
  ·simp at hr
 ·split at he
  ·rename_i hflat
   simp only [AaG,AaH] at he
   obtain ⟨rfl,rfl⟩:=he
   refine (main (fun _=>True) HC fun x _=>GP 20 x).mono fun e w' hh=>?_
   obtain ⟨c,S1,ρ1,β1,rfl,k1,k2,k3⟩:=hh
   obtain ⟨m1,m2⟩:=leave hok k2 k1
   exact ⟨c,_,ρ,rfl,m1,m2,NY himm hflat k3⟩
  ·simp only [Ah,AaF,AaG,AaH] at he
   obtain ⟨hsh,H2,hfz,rfl,rfl⟩:=he
   obtain ⟨f1,f2,f3,f4⟩:=Eg _ hok hfz
   refine (main (· ∈ vs.flatMap DG) (HD f4) fun x hx=>Fw (AaZ.1 hsh x hx) (fun r hr=>List.mem_flatMap.2 ⟨x,hx,hr⟩) 20).mono fun e w' hh=>?_
   obtain ⟨c,S1,ρ1,β1,rfl,k1,k2,k3⟩:=hh
   obtain ⟨m1,m2⟩:=leave f1 k2 k1
   exact ⟨c,_,ρ,rfl,m1,Stp.trans (M1:=⟨B,H2⟩) f2 (fun d hd=>.inl ⟨d,hd,rfl⟩) m2,GQ himm k3 fun x c h=>h.mono (fun _ _=>rfl) (inS (fun b hb=>hb) k2)⟩
theorem Ln {fn : F} {n : Nat} (he : EF call n fn vs H = some (v,H')) : ∃ rs,AO rs H = some H' /\ ∀ K K',Le H K -> AO rs K = some K' -> EF call n fn vs K = some (v,K'):=by
 simp only [EF,AaF] at he
 obtain ⟨is,his,⟨p1,p2⟩,hev,r,hr,he⟩:=he
 have hvw : ∀ K,Le H K -> Ai (view 20 K) vs = some is:=fun K hle=>Bq (fun x y=>hle.view 20 x y) his
 split at he
 ·rename_i hrs
  simp only [Ah,AaG,AaH] at he
  obtain ⟨hsh,rfl,rfl⟩:=he
  refine ⟨[],rfl,fun K K' hle hf=>?_⟩
  simp only [AO,AaG] at hf
  subst hf
  simp [EF,hvw K hle,hev,hr,hrs,gd,hsh]
 ·rename_i hrs
  split at he
  ·rename_i hflat
   simp only [AaG,AaH] at he
   obtain ⟨rfl,rfl⟩:=he
   refine ⟨[],rfl,fun K K' hle hf=>?_⟩
   simp only [AO,AaG] at hf
   subst hf
   simp only [EF,hvw K hle,AaR,hev,hr,hflat]
  ·rename_i hflat
   simp only [Ah,AaF,AaG,AaH] at he
   obtain ⟨hsh,H2,hfz,rfl,rfl⟩:=he
   refine ⟨_,hfz,fun K K' hle hf=>?_⟩
   simp only [EF,hvw K hle,AaR,hev,hr,hflat,hsh,gd,hf]
structure PrimOk (P : Program) (gl : Nat -> Option (List I)) (sh : Nat -> Bool) (f : Nat) (p : Bp -> List V -> Hp -> Option (V × Hp)) : Prop where
 shared : sh f = true
 enters : Ii P f
 ok : ∀ call vs H v H',Cb P gl call /\ AV sh call -> p call vs H = some (v,H') -> ∀ (w : World) S ρ β B (args : Array Value),Ok w S ρ β ⟨B,H⟩ -> GlOk gl w S -> All2 (RepX w S ρ β H) vs args.toList -> Calls P f args w (OM w S ρ β ⟨B,H⟩ v H')
theorem Wp (k f : Nat) : Nat.ble k (k + f) = true:=by rw [Abv]; exact Nat.le_add_right k f
def Oc (ty esz b : Nat) (z : List V) : F:=⟨1,[.t 2],.seq (.reg [⟨.v 2,.p .mv,[.k (.m (.nl 4))],none⟩]) (.seq (.seq (.reg [⟨.l 3,.p .mv,[.v 0],none⟩,⟨.v 4,.p (.eqn false 4),[.l 3],none⟩]) (.ite (.v 4) (.seq (.reg [⟨.v 2,.p .mv,[.k (.m (.nl 4))],none⟩]) .ret) .skip))
 (.seq (.reg [⟨.l 5,.p (.bsl esz z 0 []),[],none⟩,⟨.l 6,.p .mv,[.v 0],none⟩,⟨.l 7,.l (.app ty esz b),[.l 5,.l 6],none⟩,⟨.v 2,.p .mv,[.l 7],none⟩]) .ret))⟩
theorem FM (k : Nat) (i : I) : EW k (.m i) = true:=rfl
theorem FL (k : Nat) (es : List (List I)) : EW k (.ls es) = true:=rfl
theorem GZ (i : I) : AE (.m i) = true:=rfl
theorem GY (es : List (List I)) : AE (.ls es) = true:=rfl
theorem Zh (call : Bp) (n ty esz b : Nat) (z : List V) (H : Hp) (x : V) : evF call n (Oc ty esz b z) [x] H = gd (AE x) ((Fa 4 x).bind fun t=>match t with
 | true=>some (.m (.nl 4),H)
 | false=>(Am call ⟨[],H⟩ (.app ty esz b) [.ls [],x]).bind fun p=>gd (EW 2 p.1) (gd (AE p.1) (some (p.1,p.2.H)))):=by
 cases hf : AE x with
 | false=>simp [evF,Oc,hf,gd]
 | true =>
  have ok : ∀ k,EW k x = true:=fun k=>by cases x <;> first | rfl | simp [AE] at hf
  cases hn : Fa 4 x with
  | none=>simp [evF,Oc,hf,gd,evC,Bc,DD,Ay,AW,Ai,evA,evO,Ap,CB,BT,BA,Cw,Nat.blt,Nat.beq,Nat.ble,FM,FL,ok,hn]
  | some t =>
   cases t with
   | true=>simp [evF,Oc,hf,gd,evC,Bc,DD,Ay,AW,Ai,evA,evO,Ap,CB,BT,BA,Cw,Nat.blt,Nat.beq,Nat.ble,FM,FL,ok,hn,vb,DM,NQ,tup,GZ,GY]
   | false =>
    cases hl : Am call ⟨[],H⟩ (.app ty esz b) [.ls [],x] with
    | none=>simp [evF,Oc,hf,gd,evC,Bc,DD,Ay,AW,Ai,evA,evO,Ap,CB,BT,BA,Cw,Nat.blt,Nat.beq,Nat.ble,FM,FL,ok,hn,vb,DM,NQ,tup,GZ,GY,Bu,hl]
    | some p =>
     cases h1 : EW 2 p.1 with
     | false=>simp [evF,Oc,hf,gd,evC,Bc,DD,Ay,AW,Ai,evA,evO,Ap,CB,BT,BA,Cw,Nat.blt,Nat.beq,Nat.ble,FM,FL,ok,hn,vb,DM,NQ,tup,GZ,GY,Bu,hl,h1]
     | true =>
      cases h2 : AE p.1 with
      | false=>simp [evF,Oc,hf,gd,evC,Bc,DD,Ay,AW,Ai,evA,evO,Ap,CB,BT,BA,Cw,Nat.blt,Nat.beq,Nat.ble,FM,FL,ok,hn,vb,DM,NQ,tup,GZ,GY,Bu,hl,h1,h2]
      | true=>simp [evF,Oc,hf,gd,evC,Bc,DD,Ay,AW,Ai,evA,evO,Ap,CB,BT,BA,Cw,Nat.blt,Nat.beq,Nat.ble,FM,FL,ok,hn,vb,DM,NQ,tup,GZ,GY,Bu,hl,h1,h2]
theorem Ll {x : V} (hn : Fa 4 x = some false) (call : Bp) (ty esz b : Nat) (K : Hp) : Am call ⟨[],K⟩ (.app ty esz b) [.ls [],x] = (elems K x).bind fun xs=>EG ⟨[],K⟩ ty esz b (.ls []) xs:=by
 cases x with
 | m i=>cases i <;> first | rfl | simp [Fa] at hn
 | _=>rfl
theorem Qm {call : Bp} {n ty esz b : Nat} {z : List V} {vs : List V} {H H' : Hp} {v : V} (h : evF call n (Oc ty esz b z) vs H = some (v,H')) :
  ∃ rows,H' = H ++ rows /\ ∀ K,Le H K -> K.length = H.length -> evF call n (Oc ty esz b z) vs K = some (v,K ++ rows):=by
 match vs,h with
 | [],h=>simp [evF,Oc,gd,Nat.beq] at h
 | _ :: _ :: _,h =>
  unfold evF at h
  simp only [Ah,AaJ,AaV] at h
  simp [Oc] at h
 | [x],h =>
  simp only [Zh,Ah,AaF] at h ⊢
  obtain ⟨hf,t,ht,h⟩:=h
  cases t with
  | true =>
   simp only [AaG,AaH] at h
   obtain ⟨rfl,rfl⟩:=h
   exact ⟨[],by simp,fun K _ _=>⟨hf,true,ht,by simp⟩⟩
  | false =>
   simp only [Ll ht,AaF,Ah,AaG,AaH] at h
   obtain ⟨p,⟨xs,hx,hp⟩,h1,h2,rfl,rfl⟩:=h
   cases xs with
   | nil =>
    simp only [EG,AaG] at hp
    subst hp
    refine ⟨[],by simp,fun K hK _=>⟨hf,false,ht,?_⟩⟩
    simp only [Ll ht,AaF,Ah,AaG,AaH]
    exact ⟨(.ls [],⟨[],K⟩),⟨[],hK.elems hx,rfl⟩,h1,h2,rfl,by simp⟩
   | cons y ys =>
    simp only [EG,BI,Ah,AaG] at hp
    obtain ⟨hg,rfl⟩:=hp
    refine ⟨_,rfl,fun K hK hl=>⟨hf,false,ht,?_⟩⟩
    simp only [Ll ht,AaF,Ah,AaG,AaH]
    refine ⟨(.sl K.length (Et [] ++ y :: ys).length esz 0 (Et [] ++ y :: ys).length false,⟨[],K ++ [.cs ty esz (Et [] ++ y :: ys) 0 false]⟩),⟨y :: ys,hK.elems hx,?_⟩,rfl,rfl,by rw [hl],rfl⟩
    simp only [EG,BI,Ah,AaG]
    exact ⟨hg,True.intro⟩
theorem Ql {G : Cfg} {f ty esz b : Nat} {z : List V} (hp : G.prim f = none) (hf : G.fn f = some (Oc ty esz b z)) (hs : G.sh f = true) : ∀ {n : Nat} {vs : List V} {H H' : Hp} {v : V},AQ G n f vs H = some (v,H') ->
  ∃ rows,H' = H ++ rows /\ ∀ K,Le H K -> K.length = H.length -> AQ G n f vs K = some (v,K ++ rows)
 | 0,_,_,_,_,h=>by simp [AQ] at h
 | n + 1,vs,H,H',v,h=>by
  simp only [AQ,hp,hf,hs] at h ⊢
  exact Qm h
structure CfgOk (P : Program) (gl : Nat -> Option (List I)) (G : Cfg) : Prop where
 mixed : P.follows .mixedOrders = true
 fn : ∀ f fn, G.prim f = none -> G.fn f = some fn -> ∃ func hi dr, P.funcs[f]? = some func /\ (func.name == "runtime.NumGoroutine") = false /\ XM P hi gl G.sh dr func = some fn
 prim : ∀ f p,G.prim f = some p -> PrimOk P gl G.sh f p
 shY : G.sh yN = true
 fnY : G.fn yN = none
 prY : G.prim yN = none
 rel : ∀ hi dr a c,cmpC P hi gl G.sh dr a = some c -> RelC hi dr a c
 ler : ∀ hi dr a c,RelC hi dr a c -> cmpC P hi gl G.sh dr a = some c
 mks : ∀ n,Sb G.sh (AQ G n)
def Good (P : Program) (gl : Nat -> Option (List I)) (sh : Nat -> Bool) (p : Nat × F) : Prop := ∃ func hi dr, P.funcs[p.1]? = some func /\ (func.name == "runtime.NumGoroutine") = false /\ XM P hi gl sh dr func = some p.2
def Goods (P : Program) (gl : Nat -> Option (List I)) (sh : Nat -> Bool) : List (Nat × F) -> Prop
 | []=>True
 | p :: r=>Good P gl sh p /\ Goods P gl sh r
theorem Goods.mem {l : List (Nat × F)} (h : Goods P gl sh l) : ∀ p,p ∈ l -> Good P gl sh p:=by
 induction l with
 | nil=>intro p hp; simp at hp
 | cons q l ih =>
  intro p hp
  rcases Abd.1 hp with rfl | hp
  ·exact h.1
  ·exact ih h.2 p hp
theorem T.look_mem : ∀ {t : T} {n : Nat} {f : F},t.look n = some f -> (n,f) ∈ t.all
 | .nil,n,f,h=>by simp [T.look] at h
 | .lf k g,n,f,h=>by
  simp only [T.look] at h
  split at h
  ·rename_i hb
   have:=AaY hb
   subst this
   simp only [AaG] at h
   subst h
   simp [T.all]
  ·cases h
 | .nd m a b,n,f,h=>by
  simp only [T.look] at h
  simp only [T.all,AbC]
  split at h
  ·exact .inl (T.look_mem h)
  ·exact .inr (T.look_mem h)
theorem JW {G : Cfg} (hG : CfgOk P gl G) : ∀ n,Cb P gl (AQ G n) /\ AV G.sh (AQ G n)
 | 0=>⟨fun f vs H v H' h=>by simp [AQ] at h,fun f _ vs H v H' h=>by simp [AQ] at h,hG.mks 0⟩
 | n + 1=>by
  obtain ⟨ih1,ih2⟩:=JW hG n
  refine ⟨fun f vs H v H' h=>⟨fun hny=>?_,fun hf=>?_⟩,fun f hsh vs H v H' h=>?_,hG.mks (n + 1)⟩
  ·unfold AQ at h
   split at h
   ·rename_i p hp
    have:=hG.prim f p hp
    exact ⟨this.enters,fun w S ρ β B args h1 h2 h3=>this.ok _ _ _ _ _ ⟨ih1,ih2⟩ h w S ρ β B args h1 h2 h3⟩
   ·rename_i hp
    split at h
    ·rename_i fn hfn
     obtain ⟨func,hi,dr,hf,hname,hc⟩:=hG.fn f fn hp hfn
     have hen : Ii P f:=⟨func,hf,hname,by
      simp only [XM,AaF] at hc
      obtain ⟨code,hcode,_⟩:=hc
      rw [hcode]
      rfl⟩
     refine ⟨hen,fun w S ρ β B args h1 h2 h3=>?_⟩
     split at h
     ·exact Qc hf hc ih1 ih2 hG.mixed hG.rel h h1 h2 h3
     ·exact Qp hf hc ih1 ih2 hG.mixed hG.rel h h1 h2 h3
    ·simp only [Ah,AaV] at h
     exact absurd h.1 hny
  ·subst hf
   unfold AQ at h
   rw [hG.prY,hG.fnY] at h
   simp only [Ah,Nat.beq_refl,true_and] at h
   simp [HE] at h
  ·have hny : f ≠ yN:=fun e=>by subst e; rw [hG.shY] at hsh; cases hsh
   unfold AQ at h
   split at h
   ·rename_i p hp
    have:=(hG.prim f p hp).shared
    rw [this] at hsh
    cases hsh
   ·rename_i hp
    split at h
    ·rename_i fn hfn
     rw [hsh] at h
     obtain ⟨rs,h1,h2⟩:=Ln h
     refine ⟨rs,h1,fun K K' hle hf2=>?_⟩
     unfold AQ
     simp only [hp,hfn,hsh]
     exact h2 K K' hle hf2
    ·simp only [Ah,AaV] at h
     exact absurd h.1 hny
end
end Go.Mx
/- The primitive of the machine for (*strings.Builder).copyCheck, and its contract: the library's own body, walked over any program that bears it. -/
set_option linter.unusedVariables false
namespace Go.Mx
variable {P : Program}
end Go.Mx
/- Primitives of the machine for library functions of immutable values, and their contracts: the library's own body, walked over any program that bears it. -/
set_option linter.unusedVariables false
namespace Go.Mx
variable {P : Program}
end Go.Mx
