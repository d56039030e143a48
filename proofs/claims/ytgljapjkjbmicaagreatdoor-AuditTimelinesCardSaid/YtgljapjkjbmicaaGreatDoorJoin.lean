/- From the rows' readings to the machine's values: whatever can be read as data stands for immutable values, typed as the type says, bounded as the bulk is. -/
import Derived.Test.YtgljapjkjbmicaaGreatDoorBd
import Derived.Test.YtgljapjkjbmicaaGreatDoorRows
import Derived.ProofKit
set_option linter.unusedSimpArgs false
set_option linter.unusedVariables false
set_option linter.unusedSectionVars false
namespace Go.Mx
open Go.Proofs.YtgljapjkjbmicaaGreatDoor (Rows.uptoBulk Rows.uptoBulkAll)
section
variable {P : Program} {W : World} {S : Nat -> Prop} {H : Type} {enc : TypeId × Value -> H} {base : Nat} {sp : Nat -> Bool} {held : Bool}
def Gg (g : TypeId -> List I -> Prop) : List Field -> List I -> Prop
 | [],l=>l = []
 | f :: r,l=>∃ x y,l = x ++ y /\ g f.type x /\ Gg g r y
def Fits (P : Program) (B : Nat) : Nat -> TypeId -> List I -> Prop
 | 0,_,_=>False
 | n + 1,t,l=>match P.underlying t with
  | some .bool=>∃ x,l = [.b x]
  | some (.int k)=>∃ x,l = [.i k x] /\ k.min <= x /\ x <= k.max
  | some .string=>∃ s,l = [.s s] /\ s.length <= B /\ ∀ c,c ∈ s -> c < 256
  | some (.slice e)=>l = [.nl 4] \/ ∃ es,l = [.sl es] /\ es.length <= B /\ ∀ x,x ∈ es -> Fits P B n e x
  | some (.pointer e)=>l = [.nl 0] \/ ∃ x,l = [.pt x] /\ Fits P B n e x
  | some (.array m e)=>∃ es : List (List I),l = es.flatten /\ es.length = m /\ ∀ x,x ∈ es -> Fits P B n e x
  | some (.struct fs)=>Gg (Fits P B n) fs.toList l
  | _=>False
def Uq (g : TypeId -> Option Nat) : Nat -> List Field -> Option Nat
 | o,[]=>some o
 | o,f :: r=>(g f.type).bind fun s=>gd (Nat.beq f.offset o) (Uq g (o + s) r)
def IZ (P : Program) : Nat -> TypeId -> Option Nat
 | 0,_=>none
 | n + 1,t=>match P.underlying t with
  | some .bool=>some 1
  | some (.int _)=>some 1
  | some .string=>some 1
  | some (.slice e)=>(IZ P n e).bind fun s=>gd (Nat.beq s (P.cellsOf e) && Nat.ble 1 s) (some 1)
  | some (.pointer e)=>(IZ P n e).bind fun s=>gd (Nat.beq s (P.cellsOf e) && Nat.ble 1 s) (some 1)
  | some (.array m e)=>(IZ P n e).bind fun s=>gd (Nat.beq s (P.cellsOf e) && Nat.beq (m * s) (P.cellsOf t)) (some (m * s))
  | some (.struct fs)=>(Uq (fun u=>(IZ P n u).bind fun s=>gd (Nat.beq s (P.cellsOf u)) (some s)) 0 fs.toList).bind fun s=>gd (Nat.beq s (P.cellsOf t)) (some s)
  | _=>none
def toIs (g : TypeId -> DataW H -> Option (List I)) : List Field -> List (DataW H) -> Option (List I)
 | [],[]=>some []
 | f :: r,d :: ds=>(g f.type d).bind fun x=>(toIs g r ds).bind fun y=>some (x ++ y)
 | _,_=>none
def toI (P : Program) : Nat -> TypeId -> DataW H -> Option (List I)
 | 0,_,_=>none
 | n + 1,t,d=>match P.underlying t,d with
  | some .bool,.lit (.bool b)=>some [.b b]
  | some (.int _),.lit (.int k x)=>some [.i k x]
  | some .string,.lit (.string l)=>some [.s (l.map UInt8.toNat)]
  | some (.slice _),.nil=>some [.nl 4]
  | some (.slice e),.slice els _=>(Ai (toI P n e) els).bind fun es=>some [.sl es]
  | some (.pointer _),.nil=>some [.nl 0]
  | some (.pointer e),.ptr x=>(toI P n e x).bind fun l=>some [.pt l]
  | some (.array _ e),.agg parts=>(Ai (toI P n e) parts).bind fun es=>some es.flatten
  | some (.struct fs),.agg parts=>toIs (toI P n) fs.toList parts
  | _,_=>none
def Reps (W : World) (S : Nat -> Prop) (l : List I) (cs : List Value) : Prop:=l.length = cs.length /\ ∀ (j : Nat) x,l[j]? = some x -> ∃ c,cs[j]? = some c /\ RepI W S x c
theorem Reps.one {x : I} {c : Value} (h : RepI W S x c) : Reps W S [x] [c]:=⟨rfl,fun j y hj=>by
 cases j with
 | zero=>simp at hj; subst hj; exact ⟨c,rfl,h⟩
 | succ j=>simp at hj⟩
theorem Reps.append {l l' : List I} {cs cs' : List Value} (h : Reps W S l cs) (k : Reps W S l' cs') : Reps W S (l ++ l') (cs ++ cs'):=by
 refine ⟨by simp [h.1,k.1],fun j x hj=>?_⟩
 by_cases hl : j < l.length
 ·rw [Aba hl] at hj
  obtain ⟨c,h1,h2⟩:=h.2 j x hj
  exact ⟨c,by rw [Aba (by rw [<- h.1]; exact hl)]; exact h1,h2⟩
 ·rw [AbK (by omega)] at hj
  obtain ⟨c,h1,h2⟩:=k.2 _ x hj
  exact ⟨c,by rw [AbK (by rw [<- h.1]; omega),<- h.1]; exact h1,h2⟩
theorem DO {α β : Type} {f : α -> Option β} : ∀ {l : List α} {m : List β},l.mapM f = some m -> Ai f l = some m
 | [],m,h=>by simp at h; subst h; rfl
 | a :: l,m,h=>by
  simp only [List.mapM_cons,Option.bind_eq_bind,AaF,Option.pure_def,AaG] at h
  obtain ⟨b,hb,r,hr,rfl⟩:=h
  simp [Ai,hb,DO hr]
theorem Ha {a : Addr} {n : Nat} {cs : List Value} (h : W.cells? base a n = some cs) (hn : 1 <= n) : ∃ b off,a = ⟨b,off,none⟩ /\ b < W.heap.size /\ cs.length = n /\ ∀ (j : Nat) c,cs[j]? = some c -> W.cell? ⟨b,off + j,none⟩ = some c:=by
 unfold World.cells? at h
 split at h
 ·have h:=DO h
  obtain ⟨h1,h2⟩:=AI h
  rw [List.length_range] at h1
  obtain ⟨b,off,spot⟩:=a
  have h0 : ∃ c,W.cell? ⟨b,off,spot⟩ = some c:=by
   obtain ⟨x,hx,hf⟩:=h2 0 (cs[0]'(by omega)) (AaK (by omega))
   rw [List.getElem?_range (by omega)] at hx
   cases hx
   exact ⟨_,by simpa [Addr.add] using hf⟩
  obtain ⟨c,hc⟩:=h0
  unfold World.cell? at hc
  split at hc
  ·rename_i cc e fr hh
   have hsp : spot = none:=by
    cases spot with
    | none=>rfl
    | some s=>simp at hc
   subst hsp
   refine ⟨b,off,rfl,(Abk.1 hh).1,h1,fun j c hj=>?_⟩
   obtain ⟨x,hx,hf⟩:=h2 j c hj
   rw [List.getElem?_range (by have:=(AaI.1 hj).1; omega)] at hx
   cases hx
   rw [Be] at hf
   exact hf
  ·cases hc
 ·cases h
theorem To {d : DataW H} {l : List (DataW H)} (h : d ∈ l) : Rows.uptoBulk d <= Rows.uptoBulkAll l:=by
 induction l with
 | nil=>cases h
 | cons x r ih =>
  simp only [Rows.uptoBulkAll]
  cases Abd.1 h with
  | inl e=>subst e; omega
  | inr e=>have:=ih e; omega
theorem Tn (d : DataW H) : 1 <= Rows.uptoBulk d:=by
 cases d with
 | lit l=>cases l <;> simp [Rows.uptoBulk]
 | _=>simp [Rows.uptoBulk]
theorem Tp (l : List (DataW H)) : l.length <= Rows.uptoBulkAll l:=by
 induction l with
 | nil=>simp [Rows.uptoBulkAll]
 | cons x r ih=>have:=Tn x; simp only [Rows.uptoBulkAll,AbD]; omega
def AaE (P : Program) (W : World) (S : Nat -> Prop) (B n : Nat) (t : TypeId) (cs : List Value) (d : DataW H) : Prop :=
 ∃ l,toI P n t d = some l /\ Fits P B n t l /\ Reps W S l cs
theorem GO : ∀ {n : Nat} {t : TypeId} {s : Nat} {B : Nat} {l : List I},IZ P n t = some s -> Fits P B n t l -> l.length = s
 | 0,t,s,B,l,h,_=>by simp [IZ] at h
 | n + 1,t,s,B,l,h,hf=>by
  unfold IZ at h
  unfold Fits at hf
  split at h
  ·rename_i hu; simp only [hu] at hf; obtain ⟨x,rfl⟩:=hf; cases h; rfl
  ·rename_i hu; simp only [hu] at hf; obtain ⟨x,rfl,_⟩:=hf; cases h; rfl
  ·rename_i hu; simp only [hu] at hf; obtain ⟨x,rfl,_⟩:=hf; cases h; rfl
  ·rename_i hu
   simp only [hu] at hf
   simp only [AaF,Ah,AaG] at h
   obtain ⟨_,_,_,rfl⟩:=h
   rcases hf with rfl | ⟨es,rfl,_⟩ <;> rfl
  ·rename_i hu
   simp only [hu] at hf
   simp only [AaF,Ah,AaG] at h
   obtain ⟨_,_,_,rfl⟩:=h
   rcases hf with rfl | ⟨es,rfl,_⟩ <;> rfl
  ·rename_i m e hu
   simp only [hu] at hf
   simp only [AaF,Ah,AaG] at h
   obtain ⟨s',hs',_,rfl⟩:=h
   obtain ⟨es,rfl,hl,hx⟩:=hf
   have : Uni s' es:=fun x hx'=>GO hs' (hx x hx')
   rw [this.len,hl]
  ·rename_i fs hu
   simp only [hu] at hf
   simp only [AaF,Ah,AaG] at h
   obtain ⟨s',hs',_,rfl⟩:=h
   have key : ∀ (fs : List Field) (o s : Nat) (l : List I),Uq (fun u=>(IZ P n u).bind fun s=>gd (Nat.beq s (P.cellsOf u)) (some s)) o fs = some s -> Gg (Fits P B n) fs l -> o + l.length = s:=by
    intro fs
    induction fs with
    | nil=>intro o s l h hf; simp only [Uq,AaG] at h; simp only [Gg] at hf; subst hf; simpa using h
    | cons f r ih =>
     intro o s l h hf
     simp only [Uq,AaF,Ah,AaG] at h
     obtain ⟨s1,⟨s2,h2,_,rfl⟩,_,h⟩:=h
     obtain ⟨x,y,rfl,hx,hy⟩:=hf
     have:=ih _ _ _ h hy
     have:=GO h2 hx
     simp only [AaX]
     omega
   have:=key fs.toList 0 s' l hs' hf
   omega
  ·cases h
theorem GF {B : Nat} (hS : ∀ b,b < W.heap.size -> S b) : ∀ (n : Nat) (t : TypeId) (s : Nat),IZ P n t = some s -> ∀ (fuel : Nat) (cs : List Value) (d : DataW H) (ps : List MemPlace),DataW.trod enc P W base sp held fuel t cs = some (d,ps) ->
  (maxLen <= B \/ Rows.uptoBulk d <= B) -> AaE P W S B n t cs d
 | 0,t,s,h,_,_,_,_,_,_=>by simp [IZ] at h
 | n + 1,t,s,h,0,cs,d,ps,hd,_=>by simp [DataW.trod] at hd
 | n + 1,t,s,h,fuel + 1,cs,d,ps,hd,hB=>by
  have ih:=fun (t : TypeId) (s : Nat) (h : IZ P n t = some s) (cs : List Value) (d : DataW H) (ps : List MemPlace) (hd : DataW.trod enc P W base sp held fuel t cs = some (d,ps)) (hB : maxLen <= B \/ Rows.uptoBulk d <= B)=>GF hS n t s h fuel cs d ps hd hB
  have part : ∀ {k : Nat} {l : List (DataW H)} {d : DataW H},(maxLen <= B \/ k <= B) -> d ∈ l -> Rows.uptoBulkAll l <= k -> maxLen <= B \/ Rows.uptoBulk d <= B:=fun {k l d} h hm hk=>h.imp id fun h=>by have:=To hm; omega
  unfold IZ at h
  unfold DataW.trod at hd
  split at h
  ·rename_i hu
   simp only [hu] at hd
   obtain ⟨c,rfl⟩ : ∃ c,cs = [c]:=by
    rcases cs with _ | ⟨c,_ | ⟨c2,r⟩⟩
    ·simp at hd
    ·exact ⟨c,rfl⟩
    ·simp at hd
   cases c with
   | bool b =>
    simp only [AaG,AaH] at hd
    obtain ⟨rfl,rfl⟩:=hd
    exact ⟨[.b b],by simp only [toI,hu],by simp only [Fits,hu]; exact ⟨_,rfl⟩,.one (.b _)⟩
   | _=>simp at hd
  ·rename_i k hu
   simp only [hu] at hd
   obtain ⟨c,rfl⟩ : ∃ c,cs = [c]:=by
    rcases cs with _ | ⟨c,_ | ⟨c2,r⟩⟩
    ·simp at hd
    ·exact ⟨c,rfl⟩
    ·simp at hd
   cases c with
   | int k' x =>
    simp only [Option.ite_none_right_eq_some,AaG,AaH] at hd
    obtain ⟨⟨rfl,hwf⟩,rfl,rfl⟩:=hd
    simp only [Lit.wf,AaJ,AaU] at hwf
    exact ⟨[.i k' x],by simp only [toI,hu],by simp only [Fits,hu]; exact ⟨_,rfl,hwf⟩,.one (.i _ _)⟩
   | _=>simp at hd
  ·rename_i hu
   simp only [hu] at hd
   obtain ⟨c,rfl⟩ : ∃ c,cs = [c]:=by
    rcases cs with _ | ⟨c,_ | ⟨c2,r⟩⟩
    ·simp at hd
    ·exact ⟨c,rfl⟩
    ·simp at hd
   cases c with
   | string str =>
    simp only [Option.ite_none_right_eq_some,AaG,AaH] at hd
    obtain ⟨hl,rfl,rfl⟩:=hd
    refine ⟨[.s (str.data.toList.map UInt8.toNat)],by simp only [toI,hu],?_,.one (.s str _ rfl)⟩
    simp only [Fits,hu]
    refine ⟨_,rfl,?_,fun c hc=>?_⟩
    ·rw [Abe]
     rcases hB with hB | hB
     ·have : str.data.toList.length = str.size:=by simp
      omega
     ·simp only [Rows.uptoBulk] at hB; omega
    ·obtain ⟨x,_,rfl⟩:=Abz.1 hc
     exact x.toNat_lt
   | _=>simp at hd
  ·rename_i e hu
   simp only [hu] at hd
   simp only [AaF,Ah,AaJ,AaV,Abv,AaG] at h
   obtain ⟨s',hs',⟨rfl,hs1⟩,rfl⟩:=h
   obtain ⟨c,rfl⟩ : ∃ c,cs = [c]:=by
    rcases cs with _ | ⟨c,_ | ⟨c2,r⟩⟩
    ·simp at hd
    ·exact ⟨c,rfl⟩
    ·simp at hd
   have hc : c = .slice none 0 0 \/ ∃ a len cap,c = .slice (some a) len cap:=by
    cases c with
    | slice o len cap =>
     cases o with
     | some a=>exact .inr ⟨a,len,cap,rfl⟩
     | none =>
      cases len with
      | zero =>
       cases cap with
       | zero=>exact .inl rfl
       | succ n=>simp at hd
      | succ n=>simp at hd
    | _=>simp at hd
   rcases hc with rfl | ⟨a,len,cap,rfl⟩
   ·simp only [AaG,AaH] at hd
    obtain ⟨rfl,rfl⟩:=hd
    exact ⟨[.nl 4],by simp only [toI,hu],by simp only [Fits,hu]; exact .inl AbL,.one .nls⟩
   ·simp only [Option.ite_none_right_eq_some,AaF,Abh,AaH] at hd
    obtain ⟨⟨hb,hlc,hcm⟩,elems,hel,rest,_,rfl,rfl⟩:=hd
    have hel:=DO hel
    obtain ⟨hlen,hget⟩:=AI hel
    rw [List.length_range] at hlen
    have each : ∀ (i : Nat) x,elems[i]? = some x -> ∃ cs,W.cells? base (a.add (i * P.cellsOf e)) (P.cellsOf e) = some cs /\ AaE P W S B n e cs x.1:=fun i x hx=>by
     obtain ⟨j,hj,hf⟩:=hget i x hx
     rw [List.getElem?_range (by have:=(AaI.1 hx).1; omega)] at hj
     cases hj
     simp only [AaF] at hf
     obtain ⟨cs,hcs,hf⟩:=hf
     have hk : Rows.uptoBulkAll (elems.map (·.1)) <= Rows.uptoBulk (DataW.slice (elems.map (·.1)) (rest.map (·.1))):=by
      simp only [Rows.uptoBulk]
      omega
     exact ⟨cs,hcs,ih e _ hs' cs x.1 x.2 hf (part (l:=elems.map (·.1)) hB (Abz.2 ⟨x,AaS hx,rfl⟩) hk)⟩
    have hto : ∃ es,Ai (toI P n e) (elems.map (·.1)) = some es:=by
     have : ∀ (l : List (DataW H × List MemPlace)),(∀ x,x ∈ l -> ∃ y,toI P n e x.1 = some y) -> ∃ es,Ai (toI P n e) (l.map (·.1)) = some es:=by
      intro l
      induction l with
      | nil=>intro _; exact ⟨[],rfl⟩
      | cons x l ihl =>
       intro h
       obtain ⟨y,hy⟩:=h x (by simp)
       obtain ⟨es,hes⟩:=ihl fun z hz=>h z (by simp [hz])
       exact ⟨y :: es,by simp [Ai,hy,hes]⟩
     refine this elems fun x hx=>?_
     obtain ⟨i,hi,rfl⟩:=List.getElem_of_mem hx
     obtain ⟨cs,_,l,h1,_⟩:=each i _ (AaK hi)
     exact ⟨l,h1⟩
    obtain ⟨es,hes⟩:=hto
    obtain ⟨g1,g2⟩:=AI hes
    have hesl : es.length = len:=by rw [g1]; simp [hlen]
    have at_ : ∀ (i : Nat) l,es[i]? = some l -> ∃ cs,W.cells? base (a.add (i * P.cellsOf e)) (P.cellsOf e) = some cs /\ Fits P B n e l /\ Reps W S l cs:=fun i l hl=>by
     obtain ⟨dd,hd1,hd2⟩:=g2 i l hl
     rw [Abb] at hd1
     obtain ⟨x,hx,rfl⟩:=Abh.1 hd1
     obtain ⟨cs,hcs,l',h1,h2,h3⟩:=each i x hx
     rw [hd2] at h1
     cases h1
     exact ⟨cs,hcs,h2,h3⟩
    have hU : ∀ l,l ∈ es -> l.length = P.cellsOf e:=fun l hl=>by
     obtain ⟨i,hi,rfl⟩:=List.getElem_of_mem hl
     obtain ⟨cs,_,h2,_⟩:=at_ i _ (AaK hi)
     exact GO hs' h2
    refine ⟨[.sl es],by simp only [toI,hu,hes,AaR],?_,.one ?_⟩
    ·simp only [Fits,hu]
     refine .inr ⟨es,rfl,?_,fun l hl=>?_⟩
     ·rcases hB with hB | hB
      ·omega
      ·simp only [Rows.uptoBulk] at hB
       have:=Tp (elems.map (·.1))
       rw [Abe] at this
       omega
     ·obtain ⟨i,hi,rfl⟩:=List.getElem_of_mem hl
      obtain ⟨cs,_,h2,_⟩:=at_ i _ (AaK hi)
      exact h2
    ·by_cases h0 : es = []
     ·subst h0
      have : len = 0:=by simpa using hesl.symm
      subst this
      exact .sl [] (some a) cap 0 0 0 (fun _ _=>undef) (by simp) hcm (by simp) (fun h=>absurd rfl h) ⟨_,rfl⟩ (by simp) (by simp)
     ·have hpos : 0 < es.length:=List.length_pos_iff.2 h0
      obtain ⟨cs0,hcs0,_⟩:=at_ 0 _ (AaK hpos)
      have e0 : a.add (0 * P.cellsOf e) = a:=by simp [Addr.add]
      rw [e0] at hcs0
      obtain ⟨b,off,rfl,hbl,_,_⟩:=Ha hcs0 hs1
      have key : ∀ (i : Nat) l (j : Nat) x,es[i]? = some l -> l[j]? = some x -> ∃ c,W.cell? ⟨b,off + (i * P.cellsOf e + j),none⟩ = some c /\ RepI W S x c:=fun i l j x hi hj=>by
       obtain ⟨cs,hcs,_,hr⟩:=at_ i l hi
       rw [Be] at hcs
       obtain ⟨b',off',he,_,_,hc⟩:=Ha hcs hs1
       cases he
       obtain ⟨c,h1,h2⟩:=hr.2 j x hj
       exact ⟨c,by rw [<- Nat.add_assoc]; exact hc j c h1,h2⟩
      rw [<- hesl]
      exact .sl es (some ⟨b,off,none⟩) cap (P.cellsOf e) b off (fun i j=>(W.cell? ⟨b,off + (i * P.cellsOf e + j),none⟩).getD undef) (by omega) hcm hU (fun _=>⟨rfl,hS b hbl⟩) ⟨_,rfl⟩
       (fun i l j x hi hj=>by obtain ⟨c,h1,_⟩:=key i l j x hi hj; rw [h1]; rfl) (fun i l j x hi hj=>by obtain ⟨c,h1,h2⟩:=key i l j x hi hj; simp only [h1,Option.getD_some]; exact h2)
  ·rename_i e hu
   simp only [hu] at hd
   simp only [AaF,Ah,AaJ,AaV,Abv,AaG] at h
   obtain ⟨s',hs',⟨rfl,hs1⟩,rfl⟩:=h
   obtain ⟨c,rfl⟩ : ∃ c,cs = [c]:=by
    rcases cs with _ | ⟨c,_ | ⟨c2,r⟩⟩
    ·simp at hd
    ·exact ⟨c,rfl⟩
    ·simp at hd
   have hc : c = .pointer none \/ ∃ a,c = .pointer (some a):=by
    cases c with
    | pointer o =>
     cases o with
     | some a=>exact .inr ⟨a,rfl⟩
     | none=>exact .inl rfl
    | _=>simp at hd
   rcases hc with rfl | ⟨a,rfl⟩
   ·simp only [AaG,AaH] at hd
    obtain ⟨rfl,rfl⟩:=hd
    exact ⟨[.nl 0],by simp only [toI,hu],by simp only [Fits,hu]; exact .inl AbL,.one .nlp⟩
   ·simp only [Abh,AaF,AaH] at hd
    obtain ⟨x,⟨cs,hcs,hf⟩,rfl,rfl⟩:=hd
    obtain ⟨b,off,rfl,hbl,_,hc⟩:=Ha hcs hs1
    obtain ⟨l,h1,h2,h3⟩:=ih e _ hs' cs x.1 x.2 hf (hB.imp id fun h=>by simp only [Rows.uptoBulk] at h; omega)
    refine ⟨[.pt l],by simp only [toI,hu,h1,AaR],by simp only [Fits,hu]; exact .inr ⟨l,rfl,h2⟩,.one ?_⟩
    have key : ∀ (j : Nat) x,l[j]? = some x -> ∃ c,W.cell? ⟨b,off + j,none⟩ = some c /\ RepI W S x c:=fun j x hj=>by
     obtain ⟨c,k1,k2⟩:=h3.2 j x hj
     exact ⟨c,hc j c k1,k2⟩
    exact .pt l b off (fun j=>(W.cell? ⟨b,off + j,none⟩).getD undef) (hS b hbl) (fun j x hj=>by obtain ⟨c,h1,_⟩:=key j x hj; rw [h1]; rfl) (fun j x hj=>by obtain ⟨c,h1,h2⟩:=key j x hj; simp only [h1,Option.getD_some]; exact h2)
  ·rename_i m e hu
   simp only [hu] at hd
   simp only [AaF,Ah,AaJ,AaV,AaG] at h
   obtain ⟨s',hs',⟨rfl,hct⟩,rfl⟩:=h
   simp only [Option.ite_none_right_eq_some,Abh,AaH] at hd
   obtain ⟨hcl,xs,hxs,rfl,rfl⟩:=hd
   have hxs:=DO hxs
   have key : ∀ (m i : Nat) (xs : List (DataW H × List MemPlace)),i * P.cellsOf e + m * P.cellsOf e <= cs.length -> Ai (fun i=>DataW.trod enc P W base sp held fuel e ((cs.drop (i * P.cellsOf e)).take (P.cellsOf e))) (List.range' i m) = some xs ->
     (maxLen <= B \/ Rows.uptoBulkAll (xs.map (·.1)) <= B) -> ∃ es,Ai (toI P n e) (xs.map (·.1)) = some es /\ es.length = m /\ (∀ x,x ∈ es -> Fits P B n e x) /\ Reps W S es.flatten ((cs.drop (i * P.cellsOf e)).take (m * P.cellsOf e)):=by
    intro m
    induction m with
    | zero =>
     intro i xs _ hxs _
     simp only [List.range'_zero,Ai,AaG] at hxs
     subst hxs
     exact ⟨[],rfl,rfl,by simp,⟨by simp,by simp⟩⟩
    | succ m ihm =>
     intro i xs hle hxs hB
     simp only [List.range'_succ,Ai,AaF,AaG] at hxs
     obtain ⟨x,hx,l,hl,rfl⟩:=hxs
     rw [Nat.succ_mul] at hle
     simp only [Abr,Rows.uptoBulkAll] at hB
     obtain ⟨y,h1,h2,h3⟩:=ih e _ hs' _ x.1 x.2 hx (hB.imp id fun h=>by omega)
     obtain ⟨es,k1,k2,k3,k4⟩:=ihm (i + 1) l (by rw [Abm]; omega) hl (hB.imp id fun h=>by omega)
     refine ⟨y :: es,by simp [Ai,h1,k1],by simp [k2],fun z hz=>?_,?_⟩
     ·rcases Abd.1 hz with rfl | hz
      ·exact h2
      ·exact k3 z hz
     ·rw [AbA,Nat.succ_mul,Nat.add_comm (m * P.cellsOf e),List.take_add,List.drop_drop]
      rw [show i * P.cellsOf e + P.cellsOf e = (i + 1) * P.cellsOf e by rw [Abm,Nat.one_mul]]
      exact h3.append k4
   rw [List.range_eq_range'] at hxs
   obtain ⟨es,k1,k2,k3,k4⟩:=key m 0 xs (by omega) hxs (hB.imp id fun h=>by simp only [Rows.uptoBulk] at h; omega)
   refine ⟨es.flatten,by simp only [toI,hu,k1,AaR],by simp only [Fits,hu]; exact ⟨es,rfl,k2,k3⟩,?_⟩
   rw [Nat.zero_mul,AbV,Abc (by omega)] at k4
   exact k4
  ·rename_i fs hu
   simp only [hu] at hd
   simp only [AaF,Ah,AaV,AaG] at h
   obtain ⟨s',hs',hst,rfl⟩:=h
   simp only [Option.ite_none_right_eq_some,Abh,AaH] at hd
   obtain ⟨hcl,xs,hxs,rfl,rfl⟩:=hd
   have hxs:=DO hxs
   have key : ∀ (fs : List Field) (o s : Nat) (xs : List (DataW H × List MemPlace)),Uq (fun u=>(IZ P n u).bind fun s=>gd (Nat.beq s (P.cellsOf u)) (some s)) o fs = some s -> s <= cs.length ->
     Ai (fun f : Field=>DataW.trod enc P W base sp held fuel f.type ((cs.drop f.offset).take (P.cellsOf f.type))) fs = some xs -> (maxLen <= B \/ Rows.uptoBulkAll (xs.map (·.1)) <= B) ->
     o <= s /\ ∃ l,toIs (toI P n) fs (xs.map (·.1)) = some l /\ Gg (Fits P B n) fs l /\ Reps W S l ((cs.drop o).take (s - o)):=by
    intro fs
    induction fs with
    | nil =>
     intro o s xs hl _ hxs _
     simp only [Uq,AaG] at hl
     subst hl
     simp only [Ai,AaG] at hxs
     subst hxs
     exact ⟨AaQ _,[],rfl,rfl,⟨by simp,by simp⟩⟩
    | cons f r ihf =>
     intro o s xs hl hle hxs hB
     simp only [Uq,AaF,Ah,AaG,AaV] at hl
     obtain ⟨s1,⟨s2,h2,hc2,rfl⟩,ho,hl⟩:=hl
     simp only [Ai,AaF,AaG] at hxs
     obtain ⟨x,hx,l,hl2,rfl⟩:=hxs
     simp only [Abr,Rows.uptoBulkAll] at hB
     obtain ⟨k0,y,k1,k2,k3⟩:=ihf _ _ l hl hle hl2 (hB.imp id fun h=>by omega)
     obtain ⟨z,j1,j2,j3⟩:=ih f.type _ h2 _ x.1 x.2 hx (hB.imp id fun h=>by omega)
     refine ⟨by omega,z ++ y,by simp [toIs,j1,k1],⟨z,y,rfl,j2,k2⟩,?_⟩
     rw [ho,<- hc2] at j3
     rw [show s - o = s2 + (s - (o + s2)) by omega,List.take_add,List.drop_drop]
     exact j3.append k3
   obtain ⟨_,l,k1,k2,k3⟩:=key fs.toList 0 s' xs hs' (by omega) hxs (hB.imp id fun h=>by simp only [Rows.uptoBulk] at h; omega)
   refine ⟨l,by simp only [toI,hu,k1],by simp only [Fits,hu]; exact k2,?_⟩
   rw [Nat.sub_zero,AbV,Abc (by omega)] at k3
   exact k3
  ·cases h
end
end Go.Mx
