/- The nodes that the reduction gives are small: plain. -/
import Derived.Test.YtbpkmkgnkpeefaaGreatDoorUs
import Derived.Test.YtbpkmkgnkpeefaaGreatDoorVf
set_option linter.unusedSimpArgs false
set_option linter.unusedVariables false
set_option linter.unusedSectionVars false
set_option maxRecDepth 100000
namespace Go.Mx.Tryz
open Go.Lib

set_option maxHeartbeats 1000000 in
theorem reduceP_s {t : TreeC} {h n : I} {es : List (List I)} (hT : TreeV t h n es) {H : Hp} (Q : V → Hp → Prop)
  (hQ : treeOk t = true → ∀ z eo,IsSl z eo → NdsV eo → eo.map dNd = redN t.nodes → Q (.m (.ag [.i .i64 t.states,.sl (cells2 t.hood),z])) H)
  (h0 : treeOk t = false → Q (.m (.ag [.i .i64 0,.nl 4,.nl 4])) H) : Ret G 37 [.m (.ag [.i .i64 t.states,h,n])] H Q:=by
 have gt:=tree_s hT
 refine ret_pur rfl rfl rfl rfl rfl ?_
 have oi : ∀ x : Int,oneV (.m (.i .i64 x)) = true:=fun _=>rfl
 have onl : oneV (.m (.nl 4)) = true:=rfl
 cases hok : treeOk t with
 | false =>
  rw [hok] at gt
  have kk:=h0 hok
  simp (maxSteps:=2000000) (disch:=omega) [gd_in,gd_and,wr_i64,cl (gt _),allM,oi,onl]
  exact kk
 | true =>
  rw [hok] at gt
  obtain ⟨_,h3,⟨h4,h4'⟩,_,_⟩:=treeOk_get hok
  have hh:=hoodOk_lenU h3
  have hl:=treeV_len hT
  simp (maxSteps:=2000000) (disch:=omega) [gd_in,gd_and,wr_i64,cl (gt _),allM,oi,onl]
  rw [callC_some]
  have hne : t.hood ≠ []:=fun e=>by rw [e] at hh; simp at hh
  have hr:=okR_of hok
  rw [hT.eq] at hr
  refine rebuilt_s hT.nd (ndsV_of hT.ok) hr (by omega) (by omega) hT.hd hne (by omega) _ fun rh eo oo H' k1 k2 k3 k4 k5 k6 k7 k8=>?_
  have he : eo ≠ []:=fun e=>outR_ne hok (by rw [← red_eq hok,hT.eq,← k4,e]; rfl)
  have kk:=hQ hok (.sl eo) eo (.inl rfl) k3 (by rw [k4,hT.eq])
  have v1:=k2.view he 17
  have v2 : Mx.view 19 H' (.sl rh t.hood.length 2 0 t.hood.length false) = some (.sl (cells2 t.hood)):=by
   show Option.bind (Mx.elems H' (.sl rh t.hood.length 2 0 t.hood.length false)) _ = _
   rw [elems_row,k1]
   show Option.bind (gd (Nat.ble 0 t.hood.length && Nat.beq 2 2) (some (((immS (cells2 t.hood)).drop 0).take t.hood.length))) _ = _
   rw [ble_dec,decide_eq_true (Nat.zero_le _),List.drop_zero,List.take_of_length_le (by simp [immS,cells2])]
   show Option.bind (optMap (fun e=>optMap (Mx.view 18 H') e) (immS (cells2 t.hood))) _ = _
   rw [optN]
   rfl
  have v3 : Mx.viewR H' (.ag [.m (.i .i64 t.states),.sl rh t.hood.length 2 0 t.hood.length false,oo]) = some (.m (.ag [.i .i64 t.states,.sl (cells2 t.hood),.sl eo])):=by
   show (Mx.view 20 H' _).bind _ = _
   have : Mx.view 20 H' (.ag [.m (.i .i64 t.states),.sl rh t.hood.length 2 0 t.hood.length false,oo]) = some (.ag [.i .i64 t.states,.sl (cells2 t.hood),.sl eo]):=by
    show Option.bind (optMap (Mx.view 19 H') [.m (.i .i64 t.states),.sl rh t.hood.length 2 0 t.hood.length false,oo]) _ = _
    have v0 : Mx.view 19 H' (.m (.i .i64 t.states)) = some (.i .i64 t.states):=rfl
    simp only [optMap,v0,v1,v2,Option.bind_some]
   rw [this]
   rfl
  have hon:=k2.nf
  have cva : ∀ l,cellsV (.ag l) = some l:=fun _=>rfl
  have osl : ∀ (a b c d e : Nat) (f : Bool),oneV (.sl a b c d e f) = true:=fun _ _ _ _ _ _=>rfl
  have ams : ∀ (a b c d e : Nat) (f : Bool) (l : List V),allM (.sl a b c d e f :: l) = none:=fun _ _ _ _ _ _ _=>rfl
  have amm : ∀ (x : I) (l : List V),allM (.m x :: l) = (allM l).bind fun r=>some (x :: r):=fun _ _=>rfl
  simp (maxSteps:=2000000) (disch:=omega) [gd_in,gd_and,wr_i64,cva,osl,oi,hon.2.2.1,ams,amm,v3]
  exact kk
end Go.Mx.Tryz
set_option linter.unusedSimpArgs false
set_option linter.unusedVariables false
set_option linter.unusedSectionVars false
namespace Go.Mx.Tryz

def ndAt (l : List Nd) (i : Nat) : Nd:=(l[i]?).getD (0,[])
theorem clsS_at (l : List Nd) : ∀ {n i : Nat},i < n → (clsS l n).1[i]? = some (fstC l (clsS l i).2 (ndAt l i).1 (nxtC (clsS l i).1 (ndAt l i)) i 0 : Int) ∧ (clsS l n).2[i]? = some (nxtC (clsS l i).1 (ndAt l i))
 | n + 1,i,h=>by
  obtain ⟨h1,h2⟩:=clsS_len l n
  by_cases e : i < n
  ·obtain ⟨k1,k2⟩:=clsS_at l e
   simp only [clsS]
   rw [List.getElem?_append_left (by omega),List.getElem?_append_left (by omega)]
   exact ⟨k1,k2⟩
  ·have : i = n:=by omega
   subst this
   simp only [clsS]
   rw [List.getElem?_append_right (by omega),List.getElem?_append_right (by omega),h1,h2,Nat.sub_self]
   exact ⟨rfl,rfl⟩
theorem nxtC_id {cl : List Int} {x : Nd} (h : 1 < x.1 → ∀ k,k ∈ x.2 → cl[k.toNat]? = some k) : nxtC cl x = x.2:=by
 unfold nxtC
 by_cases e : 1 < x.1
 ·rw [if_pos e]
  refine (List.map_congr_left fun k hk=>?_).trans (List.map_id x.2)
  rw [h e k hk]
  rfl
 ·rw [if_neg e]
theorem fstC_self {l : List Nd} {nx : List (List Int)} {a : Int} {c : List Int} {i : Nat} : fstC l nx a c i 0 = i ↔ ∀ j,j < i → ¬ (((l[j]?).getD (0,[])).1 = a ∧ (nx[j]?).getD [] = c):=by
 unfold fstC
 constructor
 ·intro h j hj hc
  cases hf : (List.range' 0 (i - 0)).find? fun j=>decide (((l[j]?).getD (0,[])).1 = a ∧ (nx[j]?).getD [] = c) with
  | none =>
   have:=List.find?_eq_none.1 hf j (by rw [List.mem_range'_1]; omega)
   simp only [decide_eq_true_eq] at this
   exact this hc
  | some m =>
   rw [hf] at h
   have:=List.mem_of_find?_eq_some hf
   rw [List.mem_range'_1] at this
   simp only [Option.getD_some] at h
   omega
 ·intro h
  have : (List.range' 0 (i - 0)).find? (fun j=>decide (((l[j]?).getD (0,[])).1 = a ∧ (nx[j]?).getD [] = c)) = none:=by
   rw [List.find?_eq_none]
   intro j hj
   rw [List.mem_range'_1] at hj
   simp only [decide_eq_true_eq]
   exact h j (by omega)
  rw [this]
  rfl
def KidsOk (l : List Nd) (n : Nat) : Prop:=∀ i,i < n → 1 < (ndAt l i).1 → ∀ k,k ∈ (ndAt l i).2 → 0 ≤ k ∧ k < (i : Int)
theorem id_cls {l : List Nd} {n : Nat} (hk : KidsOk l n) (hid : ∀ i,i < n → (clsS l n).1[i]? = some (i : Int)) : ∀ j i,j < i → i < n → ndAt l j ≠ ndAt l i:=by
 have pre : ∀ m,m ≤ n → ∀ i,i < m → (clsS l m).1[i]? = some (i : Int):=fun m hm i hi=>by
  obtain ⟨k1,_⟩:=clsS_at l hi
  obtain ⟨m1,_⟩:=clsS_at l (show i < n by omega)
  exact k1.trans (m1.symm.trans (hid i (by omega)))
 have nid : ∀ i,i < n → nxtC (clsS l i).1 (ndAt l i) = (ndAt l i).2:=fun i hi=>nxtC_id fun e k hkm=>by
  obtain ⟨h1,h2⟩:=hk i hi e k hkm
  obtain ⟨m,rfl⟩ : ∃ m : Nat,k = (m : Int):=⟨k.toNat,by omega⟩
  exact pre i (by omega) m (by omega)
 intro j i hj hi e
 obtain ⟨m1,_⟩:=clsS_at l hi
 rw [hid i hi] at m1
 have hf : fstC l (clsS l i).2 (ndAt l i).1 (nxtC (clsS l i).1 (ndAt l i)) i 0 = i:=by
  have:=Option.some.inj m1
  omega
 refine fstC_self.1 hf j hj ⟨?_,?_⟩
 ·exact congrArg Prod.fst e
 ·rw [(clsS_at l hj).2,nid i hi,nid j (by omega),e]
  rfl
end Go.Mx.Tryz
set_option linter.unusedSimpArgs false
set_option linter.unusedVariables false
set_option linter.unusedSectionVars false
namespace Go.Mx.Tryz

def marks (u : List Bool) (ks : List Int) : List Bool:=ks.foldl (fun u k=>u.set k.toNat true) u
theorem marks_len (ks : List Int) : ∀ u : List Bool,(marks u ks).length = u.length:=by
 induction ks with
 | nil=>intro u; rfl
 | cons k r ih=>intro u; show (marks (u.set k.toNat true) r).length = _; rw [ih]; simp
theorem marks_get {i : Nat} (ks : List Int) : ∀ u : List Bool,(∀ k,k ∈ ks → k.toNat ≠ i) → (marks u ks)[i]? = u[i]?:=by
 induction ks with
 | nil=>intro u _; rfl
 | cons k r ih =>
  intro u h
  show (marks (u.set k.toNat true) r)[i]? = _
  rw [ih _ fun q hq=>h q (List.mem_cons_of_mem _ hq),List.getElem?_set_ne (h k (List.mem_cons_self ..))]
def stepM (l : List Nd) (i : Nat) (u : List Bool) : List Bool:=if 1 < (ndAt l i).1 then marks u (ndAt l i).2 else u
def ndP (l : List Nd) : Nat → List Bool → Bool
 | 0,_=>true
 | i + 1,u=>if u[i]? = some true then ndP l i (stepM l i u) else false
def ndR (l : List Nd) : Nat → List Bool → List Bool
 | 0,u=>u
 | i + 1,u=>ndR l i (if u[i]? = some true then stepM l i u else u)
theorem stepM_get {l : List Nd} {n i j : Nat} {u : List Bool} (hk : KidsOk l n) (hi : i < n) (hj : i ≤ j) : (stepM l i u)[j]? = u[j]?:=by
 unfold stepM
 by_cases e : 1 < (ndAt l i).1
 ·rw [if_pos e]
  exact marks_get _ _ fun k hkm=>by
   obtain ⟨h1,h2⟩:=hk i hi e k hkm
   omega
 ·rw [if_neg e]
theorem ndR_get {l : List Nd} {n : Nat} (hk : KidsOk l n) : ∀ (i : Nat) (u : List Bool) (j : Nat),i ≤ n → i ≤ j + 1 → (ndR l i u)[j]? = u[j]?
 | 0,_,_,_,_=>rfl
 | i + 1,u,j,hi,hj=>by
  show (ndR l i _)[j]? = _
  rw [ndR_get hk i _ j (by omega) (by omega)]
  split
  ·exact stepM_get hk (by omega) (by omega)
  ·rfl
theorem needed_iff {l : List Nd} {n : Nat} (hk : KidsOk l n) : ∀ (i : Nat) (u : List Bool),i ≤ n → (ndP l i u = true ↔ ∀ j,j < i → (ndR l i u)[j]? = some true)
 | 0,_,_=>⟨fun _ j h=>by omega,fun _=>rfl⟩
 | i + 1,u,hi=>by
  have hg:=ndR_get hk (i + 1) u i hi (by omega)
  show (if u[i]? = some true then ndP l i (stepM l i u) else false) = true ↔ _
  by_cases e : u[i]? = some true
  ·have ih:=needed_iff hk i (stepM l i u) (by omega)
   have er : ndR l (i + 1) u = ndR l i (stepM l i u):=by
    show ndR l i (if u[i]? = some true then stepM l i u else u) = _
    rw [if_pos e]
   rw [if_pos e,ih]
   constructor
   ·intro h j hj
    by_cases c : j < i
    ·rw [er]; exact h j c
    ·have : j = i:=by omega
     subst this
     rw [hg]; exact e
   ·intro h j hj
    have:=h j (by omega)
    rwa [er] at this
  ·rw [if_neg e]
   constructor
   ·intro h; cases h
   ·intro h
    have:=h i (by omega)
    rw [hg] at this
    exact absurd this e
end Go.Mx.Tryz
set_option linter.unusedSimpArgs false
set_option linter.unusedVariables false
set_option linter.unusedSectionVars false
namespace Go.Mx.Tryz
open Go.Lib

theorem marks_mono (ks : List Int) : ∀ (u : List Bool) (j : Nat),u[j]? = some true → (marks u ks)[j]? = some true:=by
 induction ks with
 | nil=>intro u j h; exact h
 | cons k r ih =>
  intro u j h
  show (marks (u.set k.toNat true) r)[j]? = _
  refine ih _ _ ?_
  by_cases e : k.toNat = j
  ·rw [e,List.getElem?_set_self (List.getElem?_eq_some_iff.1 h).1]
  ·rw [List.getElem?_set_ne e]
   exact h
theorem marks_mem {k : Int} : ∀ (ks : List Int) (u : List Bool),k ∈ ks → k.toNat < u.length → (marks u ks)[k.toNat]? = some true
 | [],_,h,_=>by cases h
 | q :: r,u,h,hl=>by
  show (marks (u.set q.toNat true) r)[k.toNat]? = _
  rcases List.mem_cons.1 h with e | e
  ·subst e
   exact marks_mono _ _ _ (List.getElem?_set_self hl)
  ·exact marks_mem r _ e (by simpa using hl)
theorem stepM_mono {l : List Nd} {i : Nat} {u : List Bool} {j : Nat} (h : u[j]? = some true) : (stepM l i u)[j]? = some true:=by
 unfold stepM
 split
 ·exact marks_mono _ _ _ h
 ·exact h
theorem stepM_len (l : List Nd) (i : Nat) (u : List Bool) : (stepM l i u).length = u.length:=by
 unfold stepM
 split
 ·exact marks_len _ _
 ·rfl
theorem ndR_mono {l : List Nd} : ∀ (i : Nat) (u : List Bool) (j : Nat),u[j]? = some true → (ndR l i u)[j]? = some true
 | 0,_,_,h=>h
 | i + 1,u,j,h=>by
  show (ndR l i _)[j]? = _
  refine ndR_mono i _ _ ?_
  split
  ·exact stepM_mono h
  ·exact h
theorem ndR_closed {l : List Nd} {n : Nat} (hk : KidsOk l n) : ∀ (i : Nat) (u : List Bool),i ≤ n → n ≤ u.length → ∀ j,j < i → (ndR l i u)[j]? = some true → 1 < (ndAt l j).1 → ∀ k,k ∈ (ndAt l j).2 → (ndR l i u)[k.toNat]? = some true
 | 0,_,_,_,j,h=>by omega
 | i + 1,u,hi,hu,j,hj=>fun h hl k hkm=>by
  have e : ndR l (i + 1) u = ndR l i (if u[i]? = some true then stepM l i u else u):=rfl
  rw [e] at h ⊢
  by_cases c : j < i
  ·exact ndR_closed hk i _ (by omega) (by split <;> simp [stepM_len,hu]) j c h hl k hkm
  ·have : j = i:=by omega
   subst this
   obtain ⟨k1,k2⟩:=hk j (by omega) hl k hkm
   rw [ndR_get hk j _ j (by omega) (by omega)] at h
   have hu1 : u[j]? = some true:=by
    by_cases d : u[j]? = some true
    ·exact d
    ·rw [if_neg d] at h
     exact h
   rw [if_pos hu1]
   refine ndR_mono _ _ _ ?_
   unfold stepM
   rw [if_pos hl]
   exact marks_mem _ _ hkm (by omega)
def Tch (P : Nat → Prop) (st : WSt) : Prop:=∀ j,j < st.1.length → 0 ≤ (st.1[j]?).getD 0 → P j
theorem kids_tch {P : Nat → Prop} {f : Nat → WSt → WSt × Int} : ∀ (ks : List Int) (st : WSt) (acc : List Int),Tch P st → (∀ k,k ∈ ks → ∀ st,Tch P st → Tch P (f k.toNat st).1) → Tch P (kidsP f ks st acc).1
 | [],_,_,h,_=>h
 | k :: r,st,acc,h,hf=>kids_tch r (f k.toNat st).1 _ (hf k (List.mem_cons_self ..) st h) fun q hq=>hf q (List.mem_cons_of_mem _ hq)
theorem dfsR_tch {l : List Nd} {cl : List Int} {P : Nat → Prop} (hP : ∀ i,P i → 1 < (ndU l i).1 → ∀ k,k ∈ (ndU l i).2 → P (clA cl k).toNat) : ∀ (n i : Nat) (st : WSt),P i → Tch P st → Tch P (dfsR l cl n i st)
 | 0,_,_,_,h=>h
 | n + 1,i,st,hi,h=>by
  have e : dfsR l cl (n + 1) i st = if 0 ≤ (st.1[i]?).getD 0 then st
   else finR (ndU l i) i (if 1 < (ndU l i).1 then kidsP (fun j s=>(dfsR l cl n j s,((dfsR l cl n j s).1[j]?).getD 0)) ((ndU l i).2.map (clA cl)) st [] else (st,(ndU l i).2)):=rfl
  rw [e]
  split
  ·exact h
  ·have hr : Tch P (if 1 < (ndU l i).1 then kidsP (fun j s=>(dfsR l cl n j s,((dfsR l cl n j s).1[j]?).getD 0)) ((ndU l i).2.map (clA cl)) st [] else (st,(ndU l i).2)).1:=by
    by_cases h1 : 1 < (ndU l i).1
    ·rw [if_pos h1]
     refine kids_tch _ _ _ h fun k hk s hs=>?_
     obtain ⟨q,hq,rfl⟩:=List.mem_map.1 hk
     exact dfsR_tch hP n _ s (hP i hi h1 q hq) hs
    ·rw [if_neg h1]
     exact h
   generalize (if 1 < (ndU l i).1 then kidsP (fun j s=>(dfsR l cl n j s,((dfsR l cl n j s).1[j]?).getD 0)) ((ndU l i).2.map (clA cl)) st [] else (st,(ndU l i).2)) = r at hr
   intro j hj h0
   have hj : j < (r.1.1.set i ((r.1.2.length : Nat) : Int)).length:=hj
   have h0 : 0 ≤ ((r.1.1.set i ((r.1.2.length : Nat) : Int))[j]?).getD 0:=h0
   rw [List.length_set] at hj
   by_cases c : i = j
   ·subst c
    exact hi
   ·rw [List.getElem?_set_ne c] at h0
    exact hr j hj h0
theorem kidsOk_of {l : List Nd} (hr : OkR l) : KidsOk l l.length:=fun i hi h1 k hk=>by
 obtain ⟨b1,b2,_⟩:=(hr i hi).2.2.2.2.2 h1 k hk
 exact ⟨b1,by omega⟩
theorem tch_0 (P : Nat → Prop) (n : Nat) : Tch P (List.replicate n (-1),[]):=fun j hj h0=>by
 have hj : j < n:=by simpa using hj
 simp [hj] at h0
theorem red_same {l : List Nd} (hr : OkR l) (hC : OkC l (cR l)) (h1 : 1 ≤ l.length) (h2 : (ndU l (l.length - 1)).1 ≤ 25) (h : outR l = l) :
  (∀ j i,j < i → i < l.length → ndAt l j ≠ ndAt l i) ∧ ∀ j,j < l.length → (ndR l l.length ((List.replicate l.length false).set (l.length - 1) true))[j]? = some true:=by
 have hK:=kidsOk_of hr
 obtain ⟨d,d1,d2,d3,d4,d5⟩:=cR_idem hr (j:=l.length - 1) (by omega)
 have e : outR l = (dfsR l (cR l) 25 d (List.replicate l.length (-1),[])).2:=by
  unfold outR
  have d1 : clA (clsS l l.length).1 ((l.length - 1 : Nat) : Int) = d:=d1
  rw [d1,Int.toNat_natCast]
  rfl
 have hg:=(dfsR_gr hC 25 d (List.replicate l.length (-1),[]) (invR_0 l) (by omega) (by omega)).1.1
 have hall : ∀ j,j < l.length → 0 ≤ ((dfsR l (cR l) 25 d (List.replicate l.length (-1),[])).1[j]?).getD 0:=fun j hj=>by
  have c1:=hg.cnt
  rw [← e,h] at c1
  have c2 : posR (dfsR l (cR l) 25 d (List.replicate l.length (-1),[])).1 ≤ _:=List.countP_le_length
  have c3:=hg.len
  have c4 : List.countP (fun v : Int=>decide (0 ≤ v)) (dfsR l (cR l) 25 d (List.replicate l.length (-1),[])).1 = (dfsR l (cR l) 25 d (List.replicate l.length (-1),[])).1.length:=by
   unfold posR at c1 c2
   omega
  have c5:=List.countP_eq_length.1 c4
  have hj2 : j < (dfsR l (cR l) 25 d (List.replicate l.length (-1),[])).1.length:=by omega
  rw [List.getElem?_eq_getElem hj2]
  have:=c5 _ (List.getElem_mem hj2)
  simpa using this
 have hid : ∀ i : Nat,i < l.length → clA (cR l) i = i:=fun i hi=>by
  have:=dfsR_tch (l:=l) (cl:=cR l) (P:=fun i=>i < l.length ∧ clA (cR l) i = i) (fun i hi h1 k hk=>by
   obtain ⟨b1,b2,_⟩:=(hr i hi.1).2.2.2.2.2 h1 k hk
   obtain ⟨kn,rfl⟩:=Int.eq_ofNat_of_zero_le b1
   have b2 : kn < i:=b2
   obtain ⟨c,c1,c2,c3,_⟩:=cR_idem hr (j:=kn) (by omega)
   have c1 : clA (cR l) (Int.ofNat kn) = c:=c1
   show _ ∧ _
   have c1' : clA (cR l) ((kn : Nat) : Int) = c:=c1
   rw [c1',Int.toNat_natCast]
   exact ⟨by omega,c3⟩) 25 d (List.replicate l.length (-1),[]) ⟨by omega,d3⟩ (tch_0 _ l.length)
  exact (this i (by rw [hg.len]; exact hi) (hall i hi)).2
 refine ⟨id_cls hK fun i hi=>?_,fun j hj=>?_⟩
 ·have q:=hid i hi
  unfold clA cR at q
  rw [Int.toNat_natCast,List.getElem?_eq_getElem (by rw [(clsS_len l l.length).1]; exact hi)] at q
  rw [List.getElem?_eq_getElem (by rw [(clsS_len l l.length).1]; exact hi)]
  exact congrArg some q
 ·have hd : d = l.length - 1:=by
   have:=hid (l.length - 1) (by omega)
   rw [d1] at this
   omega
  have:=dfsR_tch (l:=l) (cl:=cR l) (P:=fun i=>i < l.length ∧ (ndR l l.length ((List.replicate l.length false).set (l.length - 1) true))[i]? = some true) (fun i hi h1 k hk=>by
   obtain ⟨b1,b2,_⟩:=(hr i hi.1).2.2.2.2.2 h1 k hk
   obtain ⟨kn,rfl⟩:=Int.eq_ofNat_of_zero_le b1
   have b2 : kn < i:=b2
   have q:=ndR_closed hK l.length ((List.replicate l.length false).set (l.length - 1) true) (Nat.le_refl _) (by simp) i hi.1 hi.2 h1 _ hk
   have c1' : clA (cR l) ((kn : Nat) : Int) = (kn : Int):=hid kn (by omega)
   show _ ∧ _
   have c2 : (clA (cR l) (Int.ofNat kn)).toNat = kn:=by
    show (clA (cR l) ((kn : Nat) : Int)).toNat = kn
    rw [c1',Int.toNat_natCast]
   refine ⟨?_,?_⟩
   ·show (clA (cR l) (Int.ofNat kn)).toNat < _
    rw [c2]
    omega
   ·show (ndR _ _ _)[(clA (cR l) (Int.ofNat kn)).toNat]? = _
    rw [c2]
    exact q) 25 d (List.replicate l.length (-1),[]) ⟨by omega,by
    rw [hd,ndR_get hK _ _ _ (Nat.le_refl _) (by omega),List.getElem?_set_self (by simp; omega)]⟩ (tch_0 _ l.length)
  exact (this j (by rw [hg.len]; exact hj) (hall j hj)).2
end Go.Mx.Tryz
set_option linter.unusedSimpArgs false
set_option linter.unusedVariables false
set_option linter.unusedSectionVars false
namespace Go.Mx.Tryz
open Go.Lib

def dupU (l : List Nd) : Bool:=(List.range l.length).any fun i=>(List.range i).any fun j=>decide (ndAt l i = ndAt l j)
theorem dupU_iff (l : List Nd) : dupU l = false ↔ ∀ j i,j < i → i < l.length → ndAt l j ≠ ndAt l i:=by
 unfold dupU
 rw [List.any_eq_false]
 constructor
 ·intro h j i h1 h2 e
  have q:=h i (List.mem_range.2 h2)
  rw [Bool.not_eq_true,List.any_eq_false] at q
  exact q j (List.mem_range.2 h1) (decide_eq_true e.symm)
 ·intro h i hi
  rw [Bool.not_eq_true,List.any_eq_false]
  intro j hj hd
  exact h j i (List.mem_range.1 hj) (List.mem_range.1 hi) (of_decide_eq_true hd).symm
def needU (l : List Nd) : Bool:=ndP l l.length ((List.replicate l.length false).set (l.length - 1) true)
def numU (t : TreeC) : Int:=if rule7 t ≠ 0 then rule7 t else if dupU t.nodes = true then 8 else if needU t.nodes = false then 9 else if outR t.nodes = t.nodes then 0 else 10
theorem numU_0 (t : TreeC) : numU t = 0 ↔ treeOk t = true ∧ outR t.nodes = t.nodes:=by
 unfold numU
 by_cases h7 : rule7 t = 0
 ·have hok:=(rule7_0 t).1 h7
  rw [if_neg (fun h=>h h7)]
  obtain ⟨a1,a2,a3⟩:=hood_last hok
  by_cases h : outR t.nodes = t.nodes
  ·obtain ⟨b1,b2⟩:=red_same (okR_of hok) (okC_of hok) a3 (by omega) h
   have c1:=(dupU_iff t.nodes).2 b1
   have c2 : needU t.nodes = true:=(needed_iff (kidsOk_of (okR_of hok)) _ _ (Nat.le_refl _)).2 b2
   rw [c1,c2,if_neg (by simp),if_neg (by simp),if_pos h]
   simp [hok,h]
  ·rw [if_neg h]
   constructor
   ·intro q
    split at q
    ·omega
    ·split at q <;> omega
   ·intro q
    exact absurd q.2 h
 ·rw [if_pos h7]
  constructor
  ·intro q
   exact absurd q h7
  ·intro q
   exact absurd ((rule7_0 t).2 q.1) h7
end Go.Mx.Tryz
set_option linter.unusedSimpArgs false
set_option linter.unusedVariables false
set_option linter.unusedSectionVars false
namespace Go.Mx.Tryz
open Go.Lib Go.Proofs

set_option maxHeartbeats 2000000 in
theorem indices_s {t : TreeC} {h n : I} {es : List (List I)} (hT : TreeV t h n es) (hlv : ∀ (i : Nat) (x : Nd),t.nodes[i]? = some x → x.1 ≤ t.hood.length) (hle : es.length ≤ 4096) (HH : Hp) : Gives G 33 [.m (.ag [.i .i64 t.states,h,n])] HH (.m (.b (allIx (kidOk t) 0 t.nodes))) HH:=by
 have hrn:=hT.nd.rules
 have hln:=treeV_len hT
 have hl1:=hT.hl
 refine gives_pur rfl rfl rfl rfl rfl ?_
 simp (maxSteps:=2000000) (disch:=omega) [gd_in,gd_and,wr_i64,hrn]
 refine (?key : ∀ (i : Nat) (B : List (Nat × List V)),i ≤ t.nodes.length → getB B 1 = some [.m (.i .i64 t.states),.m h,.m n] → allIx (kidOk t) 0 t.nodes = allIx (kidOk t) i (t.nodes.drop i) → Run G c33_B1 (S33_1 (.fa 1 0) (.m n) (.m (.i .i64 es.length)) (.m (.i .i64 (i : Int))) B []) _) 0 _ (Nat.zero_le _) rfl rfl
 refine indM (fun i : Nat=>t.nodes.length - i) fun i ih B hi hB hI=>?_
 unfold c33_B1
 cases hx : t.nodes[i]? with
 | none =>
  have : i = es.length:=by have:=List.getElem?_eq_none_iff.1 hx; omega
  subst this
  rw [← hln,List.drop_length] at hI
  have hI : allIx (kidOk t) 0 t.nodes = true:=hI
  simp (maxSteps:=2000000) (disch:=omega) [gd_in,gd_and,wr_i64,hrn,hI]
 | some nd =>
  have hlt:=(get_drop hx).1
  have hlt1 : i < es.length:=by omega
  have hlt2 : (i : Int) < es.length:=by omega
  obtain ⟨z,hz,hzs,hzl,hzb⟩:=treeV_at hT hx
  have hrz:=hzs.rules
  have hz1:=isSl_1 hzs
  simp only [celI_len] at hrz
  have m2:=hlv i nd hx
  have wi : wr .i64 ((i : Int) + 1) = ((i + 1 : Nat) : Int):=wr_i64 (by omega) (by omega)
  rw [(get_drop hx).2] at hI
  have hI : allIx (kidOk t) 0 t.nodes = (nd.2.all (elOk t i nd.1) && allIx (kidOk t) (i + 1) (t.nodes.drop (i + 1))):=hI
  simp (maxSteps:=2000000) (disch:=omega) [gd_in,gd_and,wr_i64,hrn,hlt1,hlt2,hz,hz1,hrz,hB]
  refine (?key2 : ∀ (j : Nat) (B : List (Nat × List V)),j ≤ nd.2.length → getB B 1 = some [.m (.i .i64 t.states),.m h,.m n] → getB B 4 = some [.m (.i .i64 nd.1),.m z] → allIx (kidOk t) 0 t.nodes = ((nd.2.drop j).all (elOk t i nd.1) && allIx (kidOk t) (i + 1) (t.nodes.drop (i + 1))) → Run G c33_B0 (S33_0 (.fa 1 0) (.m (.i .i64 (i : Int))) (.fa 4 0) (.m n) (.m (.i .i64 es.length)) (.m (.i .i64 (i : Int))) (.m z) (.m (.i .i64 nd.2.length)) (.m (.i .i64 (j : Int))) B []) _) 0 _ (Nat.zero_le _) (by simpa using hB) (by simp) hI
  clear hI
  refine indM (fun j : Nat=>nd.2.length - j) fun j ihj B hj hB h5 hI=>?_
  unfold c33_B0
  cases hy : nd.2[j]? with
  | none =>
   have : j = nd.2.length:=by have:=List.getElem?_eq_none_iff.1 hy; omega
   subst this
   rw [List.drop_length] at hI
   have k:=ih (i + 1) (by omega) B (by omega) hB hI
   simp (maxSteps:=2000000) (disch:=omega) [gd_in,gd_and,wr_i64,hrz,wi,-Int.natCast_add]
   exact k
  | some k =>
   have hjl:=(get_drop hy).1
   have hjl2 : (j : Int) < nd.2.length:=by omega
   have hk : nth (celI nd.2) j = some [.i .i64 k]:=celI_nth hy
   have wj : wr .i64 ((j : Int) + 1) = ((j + 1 : Nat) : Int):=wr_i64 (by omega) (by omega)
   have hkb:=hzb k (List.mem_of_getElem? hy)
   rw [(get_drop hy).2,List.all_cons] at hI
   have eE : elOk t i nd.1 k = decide (¬ k < 0 ∧ ¬ (nd.1 = 1 ∧ t.states ≤ k) ∧ ¬ (1 < nd.1 ∧ ((i : Int) ≤ k ∨ ¬ levAt t.nodes k = nd.1 - 1))):=rfl
   have go:=fun (h : elOk t i nd.1 k = true)=>ihj (j + 1) (by omega) B (by omega) hB h5 (by rw [hI,h,Bool.true_and])
   have no:=fun (h : elOk t i nd.1 k = false)=>(by rw [hI,h]; rfl : allIx (kidOk t) 0 t.nodes = false)
   by_cases k0 : k < 0
   ·have:=no (by rw [eE]; exact decide_eq_false fun h=>h.1 k0)
    simp (maxSteps:=2000000) (disch:=omega) [gd_in,gd_and,wr_i64,hrz,hjl,hjl2,hk,hB,h5,k0,this]
   by_cases l1 : nd.1 = 1
   ·have l2 : ¬ 1 < nd.1:=by omega
    by_cases ks : t.states ≤ k
    ·have:=no (by rw [eE]; exact decide_eq_false fun h=>h.2.1 ⟨l1,ks⟩)
     simp (maxSteps:=2000000) (disch:=omega) [gd_in,gd_and,wr_i64,hrz,hjl,hjl2,hk,hB,h5,k0,l1,ks,this]
    ·have kk:=go (by rw [eE]; exact decide_eq_true ⟨k0,fun h=>ks h.2,fun h=>l2 h.1⟩)
     rw [l1] at h5
     simp (maxSteps:=2000000) (disch:=omega) [gd_in,gd_and,wr_i64,hrz,hjl,hjl2,hk,hB,h5,k0,ks,wj,-Int.natCast_add]
     exact kk
   ·by_cases l2 : 1 < nd.1
    ·have wl : wr .i64 (nd.1 - 1) = nd.1 - 1:=wr_i64 (by omega) (by omega)
     by_cases ki : (i : Int) ≤ k
     ·have:=no (by rw [eE]; exact decide_eq_false fun h=>h.2.2 ⟨l2,.inl ki⟩)
      simp (maxSteps:=2000000) (disch:=omega) [gd_in,gd_and,wr_i64,hrz,hjl,hjl2,hk,hB,h5,k0,l1,l2,ki,this]
     ·obtain ⟨kn,rfl⟩:=Int.eq_ofNat_of_zero_le (show 0 ≤ k by omega)
      have hkn : kn < t.nodes.length:=by omega
      have hkn1 : kn < es.length:=by omega
      have hkn2 : (kn : Int) < es.length:=by omega
      obtain ⟨z',hz',_⟩:=treeV_at hT (List.getElem?_eq_getElem hkn)
      have hlv:=levAt_at (List.getElem?_eq_getElem hkn)
      have ki2 : ¬ i ≤ kn:=by omega
      by_cases hle : t.nodes[kn].1 = nd.1 - 1
      ·have kk:=go (by rw [eE]; exact decide_eq_true ⟨k0,fun h=>l1 h.1,fun h=>h.2.elim ki fun h2=>h2 (hlv.trans hle)⟩)
       simp (maxSteps:=2000000) (disch:=omega) [gd_in,gd_and,wr_i64,hrz,hrn,hjl,hjl2,hk,hB,h5,k0,l1,l2,ki,ki2,hkn1,hkn2,hz',wl,hle,wj,-Int.natCast_add]
       exact kk
      ·have:=no (by rw [eE]; exact decide_eq_false fun h=>h.2.2 ⟨l2,.inr fun h2=>hle (hlv.symm.trans h2)⟩)
       simp (maxSteps:=2000000) (disch:=omega) [gd_in,gd_and,wr_i64,hrz,hrn,hjl,hjl2,hk,hB,h5,k0,l1,l2,ki,ki2,hkn1,hkn2,hz',wl,hle,this]
    ·have kk:=go (by rw [eE]; exact decide_eq_true ⟨k0,fun h=>l1 h.1,fun h=>l2 h.1⟩)
     simp (maxSteps:=2000000) (disch:=omega) [gd_in,gd_and,wr_i64,hrz,hjl,hjl2,hk,hB,h5,k0,l1,l2,wj,-Int.natCast_add]
     exact kk
end Go.Mx.Tryz
set_option linter.unusedSimpArgs false
set_option linter.unusedVariables false
set_option linter.unusedSectionVars false
namespace Go.Mx.Tryz
open Go.Lib Go.Proofs

structure K9 where
 a : Int
 b : Int
 c : Int
 d : Int
 e : Int
 f : Int
 g : Int
 h : Int
 i : Int
deriving DecidableEq
def ekK (x : K9) : I:=.ag [.i .i64 x.a,.i .i64 x.b,.i .i64 x.c,.i .i64 x.d,.i .i64 x.e,.i .i64 x.f,.i .i64 x.g,.i .i64 x.h,.i .i64 x.i]
theorem hkK (a b : K9) : eqKey ⟨true,[1,1,1,1,1,1,1,1,1]⟩ (ekK a) (ekK b) = some (decide (a = b)):=by
 simp only [eqKey,ekK,eqCs_cons,eqC_i,eqCs_nil,Option.bind_some,Option.some.injEq]
 obtain ⟨a1,a2,a3,a4,a5,a6,a7,a8,a9⟩:=a
 obtain ⟨b1,b2,b3,b4,b5,b6,b7,b8,b9⟩:=b
 rw [Bool.eq_iff_iff]
 simp
def atK (l : List Int) (k : Nat) : Int:=(l[k]?).getD 0
def keyK (x : Nd) : K9:=⟨x.1,atK x.2 0,atK x.2 1,atK x.2 2,atK x.2 3,atK x.2 4,atK x.2 5,atK x.2 6,atK x.2 7⟩
theorem keyK_eq {x y : Nd} (h : x.2.length = y.2.length) (h8 : x.2.length ≤ 8) : keyK x = keyK y ↔ x = y:=by
 constructor
 ·intro e
  unfold keyK at e
  simp only [K9.mk.injEq] at e
  obtain ⟨e0,e1,e2,e3,e4,e5,e6,e7,e8⟩:=e
  refine Prod.ext e0 (List.ext_getElem h fun k h1 h2=>?_)
  have q : atK x.2 k = atK y.2 k:=by
   have : k = 0 ∨ k = 1 ∨ k = 2 ∨ k = 3 ∨ k = 4 ∨ k = 5 ∨ k = 6 ∨ k = 7:=by omega
   rcases this with h | h | h | h | h | h | h | h <;> subst h <;> assumption
  unfold atK at q
  rw [List.getElem?_eq_getElem h1,List.getElem?_eq_getElem h2] at q
  exact q
 ·intro e
  rw [e]
def mpK (D : List K9) : Row:=mpR ekK evB (D.map fun k=>(k,true))
def twP : List K9 → List Nd → Bool
 | _,[]=>false
 | D,x :: r=>if keyK x ∈ D then true else twP (D ++ [keyK x]) r
theorem twP_iff (S : Nat) (h8 : S ≤ 8) : ∀ (r p : List Nd),(∀ x,x ∈ p → x.2.length = S) → (∀ x,x ∈ r → x.2.length = S) → (twP (p.map keyK) r = false ↔ ∀ j i,j < i → p.length ≤ i → i < (p ++ r).length → ndAt (p ++ r) j ≠ ndAt (p ++ r) i)
 | [],p,_,_=>by
  simp only [twP,List.append_nil,true_iff]
  intro j i h1 h2 h3
  omega
 | x :: r,p,hp,hr=>by
  have hx:=hr x (List.mem_cons_self ..)
  have hpx : ∀ y,y ∈ p ++ [x] → y.2.length = S:=fun y hy=>by
   rcases List.mem_append.1 hy with h | h
   ·exact hp y h
   ·rw [List.mem_singleton] at h
    rw [h,hx]
  have ih:=twP_iff S h8 r (p ++ [x]) hpx fun y hy=>hr y (List.mem_cons_of_mem _ hy)
  rw [List.append_assoc,List.singleton_append,List.map_append,List.length_append] at ih
  have hm : keyK x ∈ p.map keyK ↔ x ∈ p:=by
   rw [List.mem_map]
   constructor
   ·rintro ⟨y,hy,e⟩
    have:=(keyK_eq (by rw [hp y hy,hx]) (by rw [hp y hy]; exact h8)).1 e
    rwa [← this]
   ·intro h
    exact ⟨x,h,rfl⟩
  have hat : ndAt (p ++ x :: r) p.length = x:=by unfold ndAt; simp
  by_cases e : x ∈ p
  ·simp only [twP,if_pos (hm.2 e)]
   constructor
   ·intro h; cases h
   ·intro h
    obtain ⟨j,hj,ej⟩:=List.getElem_of_mem e
    refine absurd ?_ (h j p.length hj (Nat.le_refl _) (by simp))
    rw [hat]
    unfold ndAt
    rw [List.getElem?_append_left hj,List.getElem?_eq_getElem hj,ej]
    rfl
  ·simp only [twP,if_neg (fun h=>e (hm.1 h))]
   have e1 : List.map keyK [x] = [keyK x]:=rfl
   rw [e1] at ih
   rw [ih]
   constructor
   ·intro h j i h1 h2 h3
    by_cases c : i = p.length
    ·subst c
     rw [hat]
     intro q
     refine e ?_
     unfold ndAt at q
     rw [List.getElem?_append_left h1,List.getElem?_eq_getElem h1] at q
     rw [← q]
     exact List.getElem_mem h1
    ·exact h j i h1 (by simp; omega) h3
   ·intro h j i h1 h2 h3
    exact h j i h1 (by simp at h2; omega) h3
theorem twP_dup {l : List Nd} (S : Nat) (h8 : S ≤ 8) (h : ∀ x,x ∈ l → x.2.length = S) : twP [] l = dupU l:=by
 have q:=twP_iff S h8 l [] (fun x hx=>by cases hx) h
 have w:=dupU_iff l
 simp only [List.map_nil,List.nil_append,List.length_nil,Nat.zero_le,true_implies] at q
 have : twP [] l = false ↔ dupU l = false:=q.trans w.symm
 cases h1 : twP [] l <;> cases h2 : dupU l <;> simp_all
theorem mfind_K (D : List K9) (k : K9) : (mfind (D.map fun k=>(k,true)) k).getD false = decide (k ∈ D):=by
 induction D with
 | nil=>rfl
 | cons a r ih =>
  by_cases h : a = k
  ·subst h; simp [mfind]
  ·have h2 : ¬ k = a:=fun e=>h e.symm
   simp only [List.map_cons,mfind,if_neg h,ih,List.mem_cons,h2,false_or]
theorem mpK_get (D : List K9) (x : K9) : lkpRow ⟨true,[1,1,1,1,1,1,1,1,1]⟩ [.m (.b false)] false false (mpK D) (ekK x) = some (.m (.b (decide (x ∈ D)))):=by
 have:=lkpRow_enc (ev:=evB) (z:=[.m (.b false)]) (ag:=false) (ok:=false) (z0:=false) hkK rfl (D.map fun k=>(k,true)) x
 rw [mfind_K] at this
 exact this
theorem mset_newK : ∀ (m : List (K9 × Bool)) (x : K9),x ∉ m.map Prod.fst → mset m x true = m ++ [(x,true)]
 | [],_,_=>rfl
 | p :: r,x,h=>by
  have h1 : ¬ p.1 = x:=fun e=>h (by simp [e])
  have h2 : x ∉ r.map Prod.fst:=fun e=>h (by simp at e ⊢; exact .inr e)
  show mset (p :: r) x true = _
  simp only [mset,if_neg h1,mset_newK r x h2,List.cons_append]
theorem mpK_up {D : List K9} {x : K9} (h : x ∉ D) : mupR ⟨true,[1,1,1,1,1,1,1,1,1]⟩ (mpK D) (ekK x) (.m (.b true)) = some (mpK (D ++ [x])):=by
 have:=mupR_enc (ev:=evB) hkK (fun _=>rfl) (D.map fun k=>(k,true)) x true
 rw [mset_newK _ _ (by rw [List.map_map]; intro hm; obtain ⟨k,hk,e⟩:=List.mem_map.1 hm; exact h (by have e : k = x:=e; rwa [← e]))] at this
 unfold mpK
 rw [List.map_append]
 exact this
def rowK (k : K9) : List (List V):=[[.m (.i .i64 k.a)],[.m (.i .i64 k.b)],[.m (.i .i64 k.c)],[.m (.i .i64 k.d)],[.m (.i .i64 k.e)],[.m (.i .i64 k.f)],[.m (.i .i64 k.g)],[.m (.i .i64 k.h)],[.m (.i .i64 k.i)]]
def k90 (x : Int) : K9:=⟨x,0,0,0,0,0,0,0,0⟩
theorem cpyK (x : Int) (c : List Int) (h : c.length ≤ 8) : cpyEl (rowK (k90 x)) 1 ((immS (celI c)).take 8) = rowK (keyK (x,c)):=by
 rcases c with _ | ⟨c1,_ | ⟨c2,_ | ⟨c3,_ | ⟨c4,_ | ⟨c5,_ | ⟨c6,_ | ⟨c7,_ | ⟨c8,_ | ⟨c9,c⟩⟩⟩⟩⟩⟩⟩⟩⟩
 all_goals first
  | rfl
  | (simp at h; omega)
theorem celI_ok (c : List Int) : ((immS (celI c)).all fun e=>Nat.beq e.length 1 && e.all oneV) = true:=by
 rw [List.all_eq_true]
 intro e he
 unfold immS celI at he
 rw [List.map_map] at he
 obtain ⟨k,_,rfl⟩:=List.mem_map.1 he
 rfl
theorem nl_endK (H : Hp) (x : Row) : nth (H ++ [x]) H.length = some x:=by rw [nth_get]; simp
theorem nl_setE (H : Hp) (x y : Row) : setEl (H ++ [x]) H.length y = some (H ++ [y]):=by
 rw [setEl_put _ _ _ (by simp)]
 simp
set_option maxHeartbeats 1000000 in
theorem twice_s {t : TreeC} {h n : I} {es : List (List I)} (hT : TreeV t h n es) (h8 : t.states ≤ 8) (hS : ∀ x,x ∈ t.nodes → (x.2.length : Int) = t.states) (hle : es.length ≤ 4096) (HH : Hp) : Gives G 34 [.m (.ag [.i .i64 t.states,h,n])] HH (.m (.b (dupU t.nodes))) HH:=by
 have hrn:=hT.nd.rules
 have hln:=treeV_len hT
 have hE : twP [] t.nodes = dupU t.nodes:=twP_dup t.states.toNat (by omega) fun x hx=>by have:=hS x hx; omega
 refine gives_pur rfl rfl rfl rfl rfl ?_
 rw [← hE]
 generalize hG : twP [] t.nodes = E at *
 simp (maxSteps:=2000000) (disch:=omega) [gd_in,gd_and,wr_i64,hrn]
 refine (?key : ∀ (i : Nat) (D : List K9) (B : List (Nat × List V)) (H : Hp),i ≤ es.length → nth H 0 = some (mpK D) → twP D (t.nodes.drop i) = E → Run G c34_B0 (S34_0 (.mp 0) (.m n) (.m (.i .i64 es.length)) (.m (.i .i64 (i : Int))) B H) _) 0 [] _ _ (Nat.zero_le _) rfl hG
 refine indM (fun i : Nat=>es.length - i) fun i ih D B H hi hB hI=>?_
 unfold c34_B0
 cases hx : t.nodes[i]? with
 | none =>
  have : i = es.length:=by have:=List.getElem?_eq_none_iff.1 hx; omega
  subst this
  rw [← hln,List.drop_length] at hI
  have hI : false = E:=hI
  subst hI
  simp (maxSteps:=2000000) (disch:=omega) [gd_in,gd_and,wr_i64,hrn]
 | some nd =>
  have hlt:=(get_drop hx).1
  have hlt1 : i < es.length:=by omega
  have hlt2 : (i : Int) < es.length:=by omega
  obtain ⟨z,hz,hzs,hzl,hzb⟩:=treeV_at hT hx
  have hrz:=hzs.rules
  have hz1:=isSl_1 hzs
  simp only [celI_len] at hrz
  have wi : wr .i64 ((i : Int) + 1) = ((i + 1 : Nat) : Int):=wr_i64 (by omega) (by omega)
  have hn8:=hS nd (List.mem_of_getElem? hx)
  rw [(get_drop hx).2] at hI
  have hI : (if keyK nd ∈ D then true else twP (D ++ [keyK nd]) (t.nodes.drop (i + 1))) = E:=hI
  have hrow : ([[V.m (.i .i64 0)],[V.m (.i .i64 0)],[V.m (.i .i64 0)],[V.m (.i .i64 0)],[V.m (.i .i64 0)],[V.m (.i .i64 0)],[V.m (.i .i64 0)],[V.m (.i .i64 0)],[V.m (.i .i64 0)]] : List (List V)) = rowK (k90 0):=rfl
  have hw9 : writeR 1 (rowK (k90 0)) 0 0 [.m (.i .i64 nd.1),.m (.i .i64 0),.m (.i .i64 0),.m (.i .i64 0),.m (.i .i64 0),.m (.i .i64 0),.m (.i .i64 0),.m (.i .i64 0),.m (.i .i64 0)] = some (rowK (k90 nd.1)):=rfl
  have hl9 : ∀ k,(rowK k).length = 9:=fun _=>rfl
  have hcp:=cpyK nd.1 nd.2 (by omega)
  have hok:=celI_ok nd.2
  have hrd9 : ∀ k,readR 1 (rowK k) 0 0 9 = some [.m (.i .i64 k.a),.m (.i .i64 k.b),.m (.i .i64 k.c),.m (.i .i64 k.d),.m (.i .i64 k.e),.m (.i .i64 k.f),.m (.i .i64 k.g),.m (.i .i64 k.h),.m (.i .i64 k.i)]:=fun _=>rfl
  have hsl : ∀ B,readX ⟨B,H ++ [Row.cs 99 1 (rowK (k90 nd.1)) 9 false]⟩ (.slcA 8 1 false false false) [.pt H.length 9 0 1] = some (.sl H.length 9 1 1 8 true):=fun B=>by
   show (nth (H ++ [Row.cs 99 1 (rowK (k90 nd.1)) 9 false]) H.length).bind _ = _
   rw [nl_endK]
   rfl
  have hcy : ∀ B,loudX (fun _ _ _=>none) ⟨B,H ++ [Row.cs 99 1 (rowK (k90 nd.1)) 9 false]⟩ (.cpy 1) [.sl H.length 9 1 1 8 true,.m z] = some (.m (.i .i64 (Int.ofNat (Nat.min nd.2.length 8))),⟨B,H ++ [Row.cs 99 1 (rowK (keyK nd)) 9 false]⟩):=fun B=>by
   show (elems (H ++ [Row.cs 99 1 (rowK (k90 nd.1)) 9 false]) (.m z)).bind _ = _
   rw [hrz.2.2,Option.bind_some]
   show (nth (H ++ [Row.cs 99 1 (rowK (k90 nd.1)) 9 false]) H.length).bind _ = _
   rw [nl_endK,Option.bind_some]
   show gd (Nat.beq 9 9 && Nat.beq 1 1 && Nat.beq 1 1 && (immS (celI nd.2)).all fun e=>Nat.beq e.length 1 && e.all oneV) _ = _
   rw [hok]
   show (setEl (H ++ [Row.cs 99 1 (rowK (k90 nd.1)) 9 false]) H.length (.cs 99 1 (cpyEl (rowK (k90 nd.1)) 1 ((immS (celI nd.2)).take 8)) 9 false)).bind _ = _
   rw [hcp,nl_setE]
   show some (V.m (.i .i64 (Int.ofNat (Nat.min (immS (celI nd.2)).length 8))),_) = _
   have : (immS (celI nd.2)).length = nd.2.length:=by simp [immS,celI]
   rw [this]
  have hl0:=nl_lt hB
  have h0 : nth (H ++ [Row.cs 99 1 (rowK (keyK nd)) 9 false]) 0 = some (mpK D):=(nl_app _ _ _ hl0).trans hB
  have hget : lkpRow ⟨true,[1,1,1,1,1,1,1,1,1]⟩ [.m (.b false)] false false (mpK D) (.ag [.i .i64 (keyK nd).a,.i .i64 (keyK nd).b,.i .i64 (keyK nd).c,.i .i64 (keyK nd).d,.i .i64 (keyK nd).e,.i .i64 (keyK nd).f,.i .i64 (keyK nd).g,.i .i64 (keyK nd).h,.i .i64 (keyK nd).i]) = some (.m (.b (decide (keyK nd ∈ D)))):=mpK_get D (keyK nd)
  simp (maxSteps:=2000000) (disch:=omega) [gd_in,gd_and,wr_i64,hsl,hcy,hrn,hlt1,hlt2,hz,hz1,hrz,nl_endK,nl_setE,hrow,hw9,hl9,hcp,hok,hrd9,allM,h0,hget]
  by_cases hk : keyK nd ∈ D
  ·rw [if_pos hk] at hI
   subst hI
   simp (maxSteps:=2000000) (disch:=omega) [gd_in,gd_and,wr_i64,hk]
  ·rw [if_neg hk] at hI
   have hup : mupR ⟨true,[1,1,1,1,1,1,1,1,1]⟩ (mpK D) (.ag [.i .i64 (keyK nd).a,.i .i64 (keyK nd).b,.i .i64 (keyK nd).c,.i .i64 (keyK nd).d,.i .i64 (keyK nd).e,.i .i64 (keyK nd).f,.i .i64 (keyK nd).g,.i .i64 (keyK nd).h,.i .i64 (keyK nd).i]) (.m (.b true)) = some (mpK (D ++ [keyK nd])):=mpK_up hk
   have hl1 : 0 < (H ++ [Row.cs 99 1 (rowK (keyK nd)) 9 false]).length:=by simp
   have hst : setEl (H ++ [Row.cs 99 1 (rowK (keyK nd)) 9 false]) 0 (mpK (D ++ [keyK nd])) = some ((H ++ [Row.cs 99 1 (rowK (keyK nd)) 9 false]).set 0 (mpK (D ++ [keyK nd]))):=setEl_put _ _ _ hl1
   have kk:=fun B=>ih (i + 1) (by omega) (D ++ [keyK nd]) B (H.set 0 (mpK (D ++ [keyK nd])) ++ [Row.cs 99 1 (rowK (keyK nd)) 9 false]) (by omega) ((nl_app _ _ _ (by simpa using hl0)).trans (nl_set_eq hl0)) hI
   simp (maxSteps:=2000000) (disch:=omega) [gd_in,gd_and,wr_i64,hk,nl_endK,hrd9,hl9,allM,h0,hup,hst,wi,-Int.natCast_add]
   exact kk _
end Go.Mx.Tryz
set_option linter.unusedSimpArgs false
set_option linter.unusedVariables false
set_option linter.unusedSectionVars false
namespace Go.Mx.Tryz
open Go.Lib Go.Proofs

def fiN (p : List I → Bool) : Nat → List (List I) → Int
 | _,[]=>-1
 | i,e :: r=>if p e = true then (i : Int) else fiN p (i + 1) r
theorem fiN_any (p : List I → Bool) : ∀ (r : List (List I)) (i : Nat),decide (0 ≤ fiN p i r) = r.any p
 | [],i=>rfl
 | e :: r,i=>by
  have ih:=fiN_any p r (i + 1)
  cases h : p e with
  | true=>simp [fiN,h]
  | false=>simp [fiN,h,ih]
set_option maxHeartbeats 1000000 in
theorem index_n {n : I} {es : List (List I)} {F : Nat} {cap : List I} (hn : IsSl n es) (hle : es.length ≤ 4096) (hv : NdsV es) (p : List I → Bool) (hf : ∀ e,e ∈ es → ∀ H,Gives G F (.m (.ag e) :: cap.map .m) H (.m (.b (p e))) H) (HH : Hp) :
  Gives G 60 [.m n,.m (.fn F cap)] HH (.m (.i .i64 (fiN p 0 es))) HH:=by
 have rn:=hn.rules
 refine gives_pur rfl rfl rfl rfl rfl ?_
 generalize hE : fiN p 0 es = E
 simp (maxSteps:=2000000) (disch:=omega) [gd_in,gd_and,wr_i64,rn]
 refine (?key : ∀ (i : Nat) (B : List (Nat × List V)) (H : Hp),i ≤ es.length → fiN p i (es.drop i) = E → Run G c60_B0 (S60_0 (.m n) (.m (.fn F cap)) (.m (.i .i64 es.length)) (.m (.i .i64 (i : Int))) B H) _) 0 _ _ (Nat.zero_le _) hE
 refine indM (fun i : Nat=>es.length - i) fun i ih B H hi hI=>?_
 unfold c60_B0
 cases hx : es[i]? with
 | none =>
  have : i = es.length:=by have:=List.getElem?_eq_none_iff.1 hx; omega
  subst this
  rw [List.drop_length] at hI
  have hI : -1 = E:=hI
  subst hI
  simp (maxSteps:=2000000) (disch:=omega) [gd_in,gd_and,wr_i64,rn]
 | some e =>
  have hm:=List.mem_of_getElem? hx
  obtain ⟨x,z,rfl,hzs⟩:=hv e hm
  have hz1:=isSl_1 hzs
  have hlt:=(get_drop hx).1
  have hlt2 : (i : Int) < es.length:=by omega
  have hnx : nth es i = some [.i .i64 x,z]:=by rw [nth_get]; exact hx
  have wi : wr .i64 ((i : Int) + 1) = ((i + 1 : Nat) : Int):=wr_i64 (by omega) (by omega)
  rw [(get_drop hx).2] at hI
  have hI : (if p [.i .i64 x,z] = true then (i : Int) else fiN p (i + 1) (es.drop (i + 1))) = E:=hI
  have hg:=hf _ hm
  cases hp : p [.i .i64 x,z] with
  | true =>
   rw [hp] at hg hI
   rw [if_pos rfl] at hI
   subst hI
   simp (maxSteps:=2000000) (disch:=omega) [gd_in,gd_and,wr_i64,rn,hlt,hlt2,hnx,hz1,allM,cl (hg _)]
  | false =>
   rw [hp] at hg hI
   rw [if_neg (by simp)] at hI
   have kk:=fun B H=>ih (i + 1) (by omega) B H (by omega) hI
   simp (maxSteps:=2000000) (disch:=omega) [gd_in,gd_and,wr_i64,rn,hlt,hlt2,hnx,hz1,allM,cl (hg _),wi,-Int.natCast_add]
   exact kk _ _
theorem contains_n {n : I} {es : List (List I)} {F : Nat} {cap : List I} (hn : IsSl n es) (hle : es.length ≤ 4096) (hv : NdsV es) (p : List I → Bool) (hf : ∀ e,e ∈ es → ∀ H,Gives G F (.m (.ag e) :: cap.map .m) H (.m (.b (p e))) H) (H : Hp) :
  Gives G 30 [.m n,.m (.fn F cap)] H (.m (.b (es.any p))) H:=by
 refine gives_pur rfl rfl rfl rfl rfl ?_
 have he:=fiN_any p es 0
 simp (maxSteps:=2000000) (disch:=omega) [gd_in,gd_and,wr_i64,cl (index_n hn hle hv p hf _),he]
set_option maxHeartbeats 1000000 in
theorem rule1_s {t : TreeC} {h n : I} (hh : IsSl h (cells2 t.hood)) (hz : oneV (.m n) = true) {x : Int} {z : I} {c : List Int} (hzs : IsSl z (celI c)) (H : Hp) : Gives G 31 [.m (.ag [.i .i64 x,z]),.m (.pt [.i .i64 t.states,h,n])] H (.m (.b (!(levOk t 0 (x,c))))) H:=by
 have rh:=hh.rules
 simp only [cells2_len] at rh
 refine gives_pur rfl rfl rfl rfl rfl ?_
 have e : levOk t 0 (x,c) = decide (1 ≤ x ∧ x ≤ t.hood.length):=rfl
 by_cases m1 : x < 1
 ·rw [e,decide_eq_false (by omega)]
  simp (maxSteps:=2000000) (disch:=omega) [gd_in,gd_and,wr_i64,rh,m1,isSl_1 hzs,isSl_1 hh]
 ·by_cases m2 : (t.hood.length : Int) < x
  ·rw [e,decide_eq_false (by omega)]
   simp (maxSteps:=2000000) (disch:=omega) [gd_in,gd_and,wr_i64,rh,m1,m2,isSl_1 hzs,isSl_1 hh]
  ·rw [e,decide_eq_true (by omega)]
   simp (maxSteps:=2000000) (disch:=omega) [gd_in,gd_and,wr_i64,rh,m1,m2,isSl_1 hzs,isSl_1 hh]
set_option maxHeartbeats 1000000 in
theorem rule2_s {t : TreeC} {h n : I} {x : Int} {z : I} {c : List Int} (hzs : IsSl z (celI c)) (H : Hp) : Gives G 32 [.m (.ag [.i .i64 x,z]),.m (.pt [.i .i64 t.states,h,n])] H (.m (.b (!(lenOk t 0 (x,c))))) H:=by
 have rz:=hzs.rules
 simp only [celI_len] at rz
 refine gives_pur rfl rfl rfl rfl rfl ?_
 have e : lenOk t 0 (x,c) = decide ((c.length : Int) = t.states):=rfl
 by_cases m1 : (c.length : Int) = t.states
 ·rw [e,decide_eq_true m1]
  simp (maxSteps:=2000000) (disch:=omega) [gd_in,gd_and,wr_i64,rz,m1,isSl_1 hzs]
 ·rw [e,decide_eq_false m1]
  simp (maxSteps:=2000000) (disch:=omega) [gd_in,gd_and,wr_i64,rz,m1,isSl_1 hzs]
end Go.Mx.Tryz
set_option linter.unusedSimpArgs false
set_option linter.unusedVariables false
set_option linter.unusedSectionVars false
namespace Go.Mx.Tryz
open Go.Lib Go.Proofs

def rowsB (u : List Bool) : List (List V):=u.map fun x=>[.m (.b x)]
@[simp] theorem rowsB_len (u : List Bool) : (rowsB u).length = u.length:=by simp [rowsB]
theorem rowsB_nth {u : List Bool} {i : Nat} {x : Bool} (h : u[i]? = some x) : nth (rowsB u) i = some [.m (.b x)]:=by
 rw [nth_get]
 simp [rowsB,h]
theorem rowsB_rep (n : Nat) : List.replicate n [V.m (.b false)] = rowsB (List.replicate n false):=by simp [rowsB]
theorem rowsB_set {u : List Bool} {i : Nat} (h : i < u.length) : setEl (rowsB u) i [.m (.b true)] = some (rowsB (u.set i true)):=by
 rw [setEl_put _ _ _ (by simpa using h)]
 simp [rowsB,List.map_set]
set_option maxHeartbeats 4000000 in
theorem needed_s {t : TreeC} {h n : I} {es : List (List I)} (hT : TreeV t h n es) (h1 : 1 ≤ es.length) (hle : es.length ≤ 4096) (hk : KidsOk t.nodes es.length) (H : Hp) : Gives G 35 [.m (.ag [.i .i64 t.states,h,n])] H (.m (.b (ndP t.nodes es.length ((List.replicate es.length false).set (es.length - 1) true)))) H:=by
 have r3:=hT.nd.rules
 have hln:=treeV_len hT
 refine gives_pur rfl rfl rfl rfl rfl ?_
 generalize hE : ndP t.nodes es.length ((List.replicate es.length false).set (es.length - 1) true) = E
 have w1 : wr .i64 ((es.length : Int) - 1) = ((es.length - 1 : Nat) : Int):=by rw [wr_i64 (by omega) (by omega)]; omega
 have g1 : es.length - 1 < es.length:=by omega
 have g2 : ((es.length - 1 : Nat) : Int) < es.length:=by omega
 have n0:=rowsB_nth (u:=List.replicate es.length false) (i:=es.length - 1) (x:=false) (by rw [List.getElem?_replicate,if_pos g1])
 have s0:=rowsB_set (u:=List.replicate es.length false) (i:=es.length - 1) (by rw [List.length_replicate]; exact g1)
 have e0 : ((es.length - 1 : Nat) : Int) = (es.length : Int) - 1:=by omega
 simp (maxSteps:=2000000) (disch:=omega) [gd_in,gd_and,wr_i64,r3,w1,g1,g2,rowsB_rep,n0,s0]
 have hu : ((List.replicate es.length false).set (es.length - 1) true).length = es.length:=by simp
 generalize (List.replicate es.length false).set (es.length - 1) true = u0 at hE hu ⊢
 rw [e0]
 refine (?key1 : ∀ (i : Nat) (u : List Bool) (B : List (Nat × List V)),i ≤ es.length → u.length = es.length → getB B 1 = some [.m (.i .i64 t.states),.m h,.m n] → ndP t.nodes i u = E →
  Run G c35_B1 (S35_1 (.fa 1 0) (.sl 0 es.length 1 0 es.length true) (.m (.i .i64 ((i : Int) - 1))) B [.cs 4 1 (rowsB u) es.length false]) _) es.length u0 _ (Nat.le_refl _) hu rfl hE
 clear hE hu n0 s0 e0 w1 g1 g2 u0
 refine indM (fun i : Nat=>i) fun i ih u B hi hu hB hE=>?_
 unfold c35_B1
 cases i with
 | zero =>
  have hm : ¬ (0 : Int) ≤ ((0 : Nat) : Int) - 1:=by omega
  have k : E = true:=hE.symm
  simp (maxSteps:=2000000) (disch:=omega) [gd_in,gd_and,wr_i64,hm,k]
 | succ i =>
  have wk : ((i + 1 : Nat) : Int) - 1 = (i : Int):=by omega
  have wi : wr .i64 ((i : Int) - 1) = (i : Int) - 1:=wr_i64 (by omega) (by omega)
  have hie : i < es.length:=by omega
  have hie' : (i : Int) < es.length:=by omega
  have hge : (0 : Int) ≤ (i : Int):=by omega
  rw [wk]
  obtain ⟨b,hb⟩ : ∃ b,u[i]? = some b:=⟨u[i],List.getElem?_eq_getElem (by omega)⟩
  have nb:=rowsB_nth hb
  have hs : ndP t.nodes (i + 1) u = if u[i]? = some true then ndP t.nodes i (stepM t.nodes i u) else false:=rfl
  rw [hs,hb] at hE
  cases b with
  | false =>
   have k : E = false:=by rw [← hE]; simp
   simp (maxSteps:=2000000) (disch:=omega) [gd_in,gd_and,wr_i64,hge,hie,hie',nb,k]
  | true =>
   rw [if_pos rfl] at hE
   obtain ⟨x,hx⟩ : ∃ x,t.nodes[i]? = some x:=⟨t.nodes[i],List.getElem?_eq_getElem (by omega)⟩
   obtain ⟨zx,x1,x2,x3,_⟩:=treeV_at hT hx
   have rx:=x2.rules
   simp only [celI_len] at rx
   have hxn : ndAt t.nodes i = x:=by unfold ndAt; rw [hx]; rfl
   have ki:=hk i hie
   rw [hxn] at ki
   unfold stepM at hE
   rw [hxn] at hE
   by_cases hl : 1 < x.1
   ·rw [if_pos hl] at hE
    simp (maxSteps:=2000000) (disch:=omega) [gd_in,gd_and,wr_i64,hge,hie,hie',nb,hB,r3,x1,hl,rx]
    refine (?key0 : ∀ (s : Nat) (B : List (Nat × List V)) (v : List Bool),s ≤ x.2.length → v.length = es.length → getB B 1 = some [.m (.i .i64 t.states),.m h,.m n] → v = marks u (x.2.take s) →
     Run G c35_B0 (S35_0 (.fa 1 0) (.sl 0 es.length 1 0 es.length true) (.m (.i .i64 (i : Int))) (.m zx) (.m (.i .i64 (x.2.length : Int))) (.m (.i .i64 (s : Int))) B [.cs 4 1 (rowsB v) es.length false]) _) 0 _ u (Nat.zero_le _) hu hB rfl
    clear hB B
    refine indM (fun s : Nat=>x.2.length - s) fun s ihs B v hs hv hB he=>?_
    unfold c35_B0
    cases hks : x.2[s]? with
    | none =>
     have : s = x.2.length:=by have:=List.getElem?_eq_none_iff.1 hks; omega
     subst this
     rw [List.take_length] at he
     subst he
     have kk:=fun B hB=>ih i (by omega) _ B (by omega) hv hB hE
     simp (maxSteps:=2000000) (disch:=omega) [gd_in,gd_and,wr_i64,rx,wi,-Int.natCast_add]
     exact kk _ hB
    | some k =>
     have hlts:=(List.getElem?_eq_some_iff.1 hks).1
     have hlts' : (s : Int) < x.2.length:=by omega
     have m1:=celI_nth hks
     have ws : wr .i64 ((s : Int) + 1) = ((s + 1 : Nat) : Int):=wr_i64 (by omega) (by omega)
     obtain ⟨k0,k1⟩:=ki hl k (List.mem_of_getElem? hks)
     obtain ⟨m,rfl⟩ : ∃ m : Nat,k = (m : Int):=⟨k.toNat,by omega⟩
     have hm1 : m < es.length:=by omega
     have hm2 : (m : Int) < es.length:=by omega
     obtain ⟨b,hb⟩ : ∃ b,v[m]? = some b:=⟨v[m],List.getElem?_eq_getElem (by omega)⟩
     have nb:=rowsB_nth hb
     have sb:=rowsB_set (u:=v) (i:=m) (by omega)
     have kk:=fun B hB=>ihs (s + 1) (by omega) B (v.set m true) (by omega) (by simpa using hv) hB (by
      rw [take_succ_get hks,he]
      unfold marks
      rw [List.foldl_append]
      rfl)
     simp (maxSteps:=2000000) (disch:=omega) [gd_in,gd_and,wr_i64,rx,hlts,hlts',m1,hm1,hm2,nb,sb,hv,ws,-Int.natCast_add]
     exact kk _ hB
   ·rw [if_neg hl] at hE
    have kk:=fun B hB=>ih i (by omega) u B (by omega) hu hB hE
    simp (maxSteps:=2000000) (disch:=omega) [gd_in,gd_and,wr_i64,hge,hie,hie',nb,hB,r3,x1,hl,wi,-Int.natCast_add]
    exact kk _ hB
end Go.Mx.Tryz
set_option linter.unusedSimpArgs false
set_option linter.unusedVariables false
set_option linter.unusedSectionVars false
namespace Go.Mx.Tryz
open Go.Lib

def BndO (l : List Nd) : Prop:=∀ x,x ∈ l → x.2.length ≤ 100 ∧ ∀ k,k ∈ x.2 → -1000000000 ≤ k ∧ k ≤ 1000000000
theorem kids_bnd {l : List Nd} {f : Nat → WSt → WSt × Int} : ∀ (ks : List Int) (st : WSt) (acc : List Int),InvR l st → BndO st.2 → (∀ k,k ∈ ks → ∀ st,InvR l st → BndO st.2 → InvR l (f k.toNat st).1 ∧ BndO (f k.toNat st).1.2) → BndO (kidsP f ks st acc).1.2
 | [],_,_,_,h,_=>h
 | k :: r,st,acc,hi,h,hf=>by
  obtain ⟨a1,a2⟩:=hf k (List.mem_cons_self ..) st hi h
  exact kids_bnd r (f k.toNat st).1 _ a1 a2 fun q hq=>hf q (List.mem_cons_of_mem _ hq)
theorem dfsR_bnd {l : List Nd} {cl : List Int} (hl : OkC l cl) (hle : l.length ≤ 10000000) : ∀ (n k : Nat) (st : WSt),InvR l st → k < l.length → (ndU l k).1 ≤ (n : Int) → BndO st.2 → BndO (dfsR l cl n k st).2
 | 0,k,st,_,hk,hn,_=>by have:=(hl k hk).1; omega
 | n + 1,k,st,hi,hk,hn,hb=>by
  have e : dfsR l cl (n + 1) k st = if 0 ≤ (st.1[k]?).getD 0 then st
   else finR (ndU l k) k (if 1 < (ndU l k).1 then kidsP (fun j s=>(dfsR l cl n j s,((dfsR l cl n j s).1[j]?).getD 0)) ((ndU l k).2.map (clA cl)) st [] else (st,(ndU l k).2)):=rfl
  rw [e]
  split
  ·exact hb
  ·obtain ⟨o1,o2,o3,o4,o5,o6⟩:=hl k hk
   have hr : BndO (if 1 < (ndU l k).1 then kidsP (fun j s=>(dfsR l cl n j s,((dfsR l cl n j s).1[j]?).getD 0)) ((ndU l k).2.map (clA cl)) st [] else (st,(ndU l k).2)).1.2 ∧ (if 1 < (ndU l k).1 then kidsP (fun j s=>(dfsR l cl n j s,((dfsR l cl n j s).1[j]?).getD 0)) ((ndU l k).2.map (clA cl)) st [] else (st,(ndU l k).2)).2.length ≤ 100 ∧ ∀ v,v ∈ (if 1 < (ndU l k).1 then kidsP (fun j s=>(dfsR l cl n j s,((dfsR l cl n j s).1[j]?).getD 0)) ((ndU l k).2.map (clA cl)) st [] else (st,(ndU l k).2)).2 → -1000000000 ≤ v ∧ v ≤ 1000000000:=by
    by_cases h1 : 1 < (ndU l k).1
    ·rw [if_pos h1]
     have hk2 : ∀ q,q ∈ (ndU l k).2.map (clA cl) → q.toNat < l.length ∧ (ndU l q.toNat).1 < (ndU l k).1:=fun q hq=>by
      obtain ⟨j,hj,rfl⟩:=List.mem_map.1 hq
      obtain ⟨b1,b2,b3,b4,b5⟩:=o6 h1 j hj
      exact ⟨b4,b5⟩
     have G:=kidsR_gr (l:=l) (m:=(ndU l k).1) (f:=fun j s=>(dfsR l cl n j s,((dfsR l cl n j s).1[j]?).getD 0)) ((ndU l k).2.map (clA cl)) st [] hi (fun q hq s hs=>by
      obtain ⟨b4,b5⟩:=hk2 q hq
      obtain ⟨⟨i1,i2,i3⟩,r2,r3⟩:=dfsR_gr hl n q.toNat s hs b4 (by omega)
      exact ⟨⟨i1,fun i hi hm=>i2 i hi (by omega),i3⟩,r2,r3⟩) (by simp)
     obtain ⟨g1,g2,g3⟩:=G
     refine ⟨kids_bnd _ _ _ hi hb fun q hq s hs hbs=>?_,by rw [g3]; simp; exact o4,fun v hv=>?_⟩
     ·obtain ⟨b4,b5⟩:=hk2 q hq
      exact ⟨(dfsR_gr hl n q.toNat s hs b4 (by omega)).1.1,dfsR_bnd hl hle n q.toNat s hs b4 (by omega) hbs⟩
     ·have:=g2 v hv
      have:=g1.1.out_le
      omega
    ·rw [if_neg h1]
     exact ⟨hb,o4,o5⟩
   generalize (if 1 < (ndU l k).1 then kidsP (fun j s=>(dfsR l cl n j s,((dfsR l cl n j s).1[j]?).getD 0)) ((ndU l k).2.map (clA cl)) st [] else (st,(ndU l k).2)) = r at hr
   intro x hx
   have hx : x ∈ r.1.2 ++ [((ndU l k).1,r.2)]:=hx
   rcases List.mem_append.1 hx with h | h
   ·exact hr.1 x h
   ·rw [List.mem_singleton] at h
    subst h
    exact hr.2
theorem outR_bnd {t : TreeC} (h : treeOk t = true) : BndO (outR t.nodes) ∧ (outR t.nodes).length ≤ t.nodes.length:=by
 obtain ⟨a1,a2,a3⟩:=hood_last h
 obtain ⟨_,_,⟨_,h4⟩,_,_⟩:=treeOk_get h
 obtain ⟨d,d1,d2,d3,d4,d5⟩:=cR_idem (okR_of h) (j:=t.nodes.length - 1) (by omega)
 have d1 : clA (clsS t.nodes t.nodes.length).1 ((t.nodes.length - 1 : Nat) : Int) = d:=d1
 have hg:=dfsR_gr (okC_of h) 25 d (List.replicate t.nodes.length (-1),[]) (invR_0 _) (by omega) (by omega)
 have hb:=dfsR_bnd (okC_of h) (by omega) 25 d (List.replicate t.nodes.length (-1),[]) (invR_0 _) (by omega) (by omega) (fun x hx=>by cases hx)
 unfold outR
 rw [d1,Int.toNat_natCast]
 exact ⟨hb,hg.1.1.out_le⟩
theorem treeV_red {t : TreeC} (h : treeOk t = true) {z : I} {eo : List (List I)} (hz : IsSl z eo) (hv : NdsV eo) (he : eo.map dNd = outR t.nodes) {hd : I} (hh : IsSl hd (cells2 t.hood)) (hl : t.hood.length ≤ 9223372036854775807) : TreeV ⟨t.states,t.hood,outR t.nodes⟩ hd z eo:=by
 obtain ⟨b1,b2⟩:=outR_bnd h
 obtain ⟨_,_,⟨_,h4⟩,_,_⟩:=treeOk_get h
 refine ⟨hh,hz,fun e hm=>?_,he.symm,hl,?_⟩
 ·obtain ⟨x,z',rfl,hz'⟩:=hv e hm
  have hm2 : dNd [.i .i64 x,z'] ∈ outR t.nodes:=by rw [← he]; exact List.mem_map_of_mem hm
  have hd2 : dNd [.i .i64 x,z'] = (x,dIn z'):=dNd_i hz'
  rw [hd2] at hm2
  obtain ⟨c1,c2⟩:=b1 _ hm2
  exact ⟨x,z',rfl,hz',Nat.le_trans c1 (by omega),fun k hk=>by have:=c2 k hk; omega⟩
 ·have : eo.length = (outR t.nodes).length:=by rw [← he,List.length_map]
  omega
end Go.Mx.Tryz
