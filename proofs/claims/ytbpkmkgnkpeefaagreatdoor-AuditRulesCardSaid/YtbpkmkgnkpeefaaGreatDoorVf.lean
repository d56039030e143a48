/- The first seven numbers of audit.Rule: what makes a tree right, part by part. -/
import Derived.Test.YtbpkmkgnkpeefaaGreatDoorTa
import Derived.Test.YtbpkmkgnkpeefaaGreatDoorDec
set_option linter.unusedSimpArgs false
set_option linter.unusedVariables false
set_option linter.unusedSectionVars false
set_option maxRecDepth 100000
namespace Go.Mx.Tryz
open Go.Lib Go.Proofs

def cells2 (l : List (Int × Int)) : List (List I):=l.map fun p=>[.i .i64 p.1,.i .i64 p.2]
@[simp] theorem cells2_len (l : List (Int × Int)) : (cells2 l).length = l.length:=by simp [cells2]
theorem cells2_nth {l : List (Int × Int)} {i : Nat} {c : Int × Int} (h : l[i]? = some c) : nth (cells2 l) i = some [.i .i64 c.1,.i .i64 c.2]:=by
 rw [nth_get]; simp [cells2,h]
def prevH (p : List (Int × Int)) : Nat → Option (Int × Int)
 | 0=>none
 | i + 1=>p[i]?
theorem chnH_cons {p : List (Int × Int)} {i : Nat} {c : Int × Int} (hx : p[i]? = some c) : chnH (prevH p i) (c :: p.drop (i + 1)) = (offOk c && (match prevH p i with | none=>true | some a=>lessP a c) && chnH (prevH p (i + 1)) (p.drop (i + 1))):=by
 have : prevH p (i + 1) = some c:=hx
 rw [this]
 cases prevH p i with
 | none=>show (offOk c && chnH (some c) _) = _; simp
 | some a=>show (offOk c && lessP a c && chnH (some c) _) = _; simp
theorem cmpP_lessP (a b : Int × Int) : (0 ≤ cmpP a.1 a.2 b.1 b.2) ↔ lessP a b = false:=by
 unfold lessP cmpP cmpI
 grind
theorem offOk_iff (c : Int × Int) : offOk c = (decide (-2 ≤ c.1) && decide (c.1 ≤ 2) && decide (-2 ≤ c.2) && decide (c.2 ≤ 2)):=by
 unfold offOk
 grind
set_option maxHeartbeats 1000000 in
theorem hood_s {v : I} {p : List (Int × Int)} (hv : IsSl v (cells2 p)) (hl : (p.length : Int) ≤ 9223372036854775807) (H : Hp) : Gives G 29 [.m v] H (.m (.b (hoodOk p))) H:=by
 have hr0:=hv.rules
 simp only [cells2_len] at hr0
 refine gives_pur rfl rfl rfl rfl rfl ?_
 by_cases h1 : 1 ≤ p.length ∧ p.length ≤ 25
 rotate_left
 ·have e : hoodOk p = false:=by unfold hoodOk; rw [decide_eq_false h1]; rfl
  by_cases h2 : (p.length : Int) < 1
  ·simp (maxSteps:=2000000) (disch:=omega) [gd_in,gd_and,wr_i64,hr0,h2,e]
  ·have h3 : (25 : Int) < p.length:=by omega
   simp (maxSteps:=2000000) (disch:=omega) [gd_in,gd_and,wr_i64,hr0,h2,h3,e]
 have h2 : ¬ (p.length : Int) < 1:=by omega
 have h3 : ¬ (25 : Int) < p.length:=by omega
 have hR : hoodOk p = chnH none p:=by unfold hoodOk; rw [decide_eq_true h1]; rfl
 rw [hR]
 simp (maxSteps:=2000000) (disch:=omega) [gd_in,gd_and,wr_i64,hr0,h2,h3]
 refine (?key : ∀ (i : Nat) (B : List (Nat × List V)),i ≤ p.length → chnH none p = chnH (prevH p i) (p.drop i) → Run G c29_B0 (S29_0 (.m v) (.m v) (.m (.i .i64 p.length)) (.m (.i .i64 i)) B []) _) 0 [] (Nat.zero_le _) rfl
 refine indM (fun i : Nat=>p.length - i) fun i ih B hi hr=>?_
 unfold c29_B0
 cases hx : p[i]? with
 | none =>
  have : i = p.length:=by have:=List.getElem?_eq_none_iff.1 hx; omega
  subst this
  have : chnH (prevH p p.length) [] = true:=by cases prevH p p.length <;> rfl
  simp [hr0,hr,this]
 | some c =>
  have hlt:=(get_drop hx).1
  have hn:=cells2_nth hx
  rw [(get_drop hx).2,chnH_cons hx,offOk_iff] at hr
  cases i with
  | zero =>
   simp (contextual:=true) (maxSteps:=2000000) (disch:=omega) [test_cx,rest_cx,gcall_cx,gcav_cx,-Int.not_lt,-Int.not_le,-Nat.not_lt,-Nat.not_le,-List.map_take,hr0,hn,hlt,wr_i64]
   repeat' first | with_reducible apply And.intro | intro _
   all_goals first
    | (refine ih 1 (by omega) _ (by omega) ?_; grind [prevH])
    | grind [prevH]
  | succ j =>
   obtain ⟨c0,hx0⟩ : ∃ c0,p[j]? = some c0:=⟨p[j],List.getElem?_eq_getElem (by omega)⟩
   have hn0:=cells2_nth hx0
   have e3 : (j : Int) + 1 < p.length:=by omega
   have e4 : (j : Int) < p.length:=by omega
   have e6 : (0 : Int) ≤ j + 1:=by omega
   have e7 : ((j : Int) + 1).toNat = j + 1:=by omega
   have hp0 : prevH p (j + 1) = some c0:=hx0
   simp only [hp0] at hr
   simp (contextual:=true) (maxSteps:=2000000) (disch:=omega) [test_cx,rest_cx,gcall_cx,gcav_cx,-Int.not_lt,-Int.not_le,-Nat.not_lt,-Nat.not_le,-List.map_take,hr0,hn,hn0,e3,e4,e6,e7,hlt,cl (pcmp_s _ _ _ _ _),wr_i64,cmpP_lessP]
   repeat' first | with_reducible apply And.intro | intro _
   all_goals first
    | (refine ih (j + 2) (by omega) _ (by omega) ?_; grind)
    | grind
end Go.Mx.Tryz
set_option linter.unusedSimpArgs false
set_option linter.unusedVariables false
set_option linter.unusedSectionVars false
namespace Go.Mx.Tryz
open Go.Lib Go.Proofs

abbrev Nd:=Int × List Int
theorem isSl_1 {y : I} {es : List (List I)} (h : IsSl y es) : oneV (.m y) = true:=by
 rcases h with rfl | ⟨rfl,_⟩ <;> rfl
def dEn : List I → Int
 | [.i _ x]=>x
 | _=>0
def dIn : I → List Int
 | .sl es=>es.map dEn
 | _=>[]
def dNd : List I → Int × List Int
 | [.i _ x,z]=>(x,dIn z)
 | _=>(0,[])
def NodesV (es : List (List I)) : Prop:=∀ e,e ∈ es → ∃ (x : Int) (z : I),e = [.i .i64 x,z] ∧ IsSl z (celI (dIn z)) ∧ (dIn z).length ≤ 9223372036854775807 ∧ ∀ k,k ∈ dIn z → -9223372036854775808 ≤ k ∧ k ≤ 9223372036854775807
structure TreeV (t : TreeC) (h n : I) (es : List (List I)) : Prop where
 hd : IsSl h (cells2 t.hood)
 nd : IsSl n es
 ok : NodesV es
 eq : t.nodes = es.map dNd
 hl : t.hood.length ≤ 9223372036854775807
 nl : es.length ≤ 9223372036854775807
theorem treeV_len {t : TreeC} {h n : I} {es : List (List I)} (hT : TreeV t h n es) : t.nodes.length = es.length:=by rw [hT.eq,List.length_map]
theorem treeV_at {t : TreeC} {h n : I} {es : List (List I)} (hT : TreeV t h n es) {j : Nat} {nd : Int × List Int} (hj : t.nodes[j]? = some nd) : ∃ z,nth es j = some [.i .i64 nd.1,z] ∧ IsSl z (celI nd.2) ∧ nd.2.length ≤ 9223372036854775807 ∧ ∀ k,k ∈ nd.2 → -9223372036854775808 ≤ k ∧ k ≤ 9223372036854775807:=by
 rw [hT.eq,List.getElem?_map] at hj
 cases he : es[j]? with
 | none=>rw [he] at hj; cases hj
 | some e =>
  rw [he] at hj
  cases hj
  obtain ⟨x,z,rfl,h1,h2,h3⟩:=hT.ok e (List.mem_of_getElem? he)
  exact ⟨z,by rw [nth_get]; exact he,h1,h2,h3⟩
theorem nodesOk_cons (t : TreeC) (i : Nat) (n : Int × List Int) (r : List (Int × List Int)) : nodesOk t i (n :: r) = (nodeOk t i n && nodesOk t (i + 1) r):=rfl
theorem levAt_at {nodes : List (Int × List Int)} {j : Nat} {nd : Int × List Int} (h : nodes[j]? = some nd) : levAt nodes (j : Int) = nd.1:=by
 unfold levAt
 rw [show ((j : Int)).toNat = j from rfl,h]
theorem take_ext {α : Type} {l m : List α} {i : Nat} {x y : α} (h : l.take i = m.take i) (hx : l[i]? = some x) (hy : m[i]? = some y) (e : x = y) : l.take (i + 1) = m.take (i + 1):=by
 rw [take_succ_get hx,take_succ_get hy,h,e]
end Go.Mx.Tryz
set_option linter.unusedSimpArgs false
set_option linter.unusedVariables false
set_option linter.unusedSectionVars false
namespace Go.Mx.Tryz
open Go.Lib Go.Proofs

def fewB (t : TreeC) : Bool:=decide (t.hood.length ≤ 40) && (decide (t.nodes.length ≤ 400) && t.nodes.all fun n=>decide (n.2.length ≤ 20))
set_option maxHeartbeats 1000000 in
theorem fewT_l {t : TreeC} {h n : I} {es : List (List I)} (hT : TreeV t h n es) (H : Hp) : Gives G 10 [.m (.ag [.i .i64 t.states,h,n])] H (.m (.b (fewB t))) H:=by
 have hrn:=hT.nd.rules
 have hln:=treeV_len hT
 have hrh:=hT.hd.rules
 simp only [cells2_len] at hrh
 have hl1:=hT.hl
 have hl2:=hT.nl
 have eF : fewB t = (decide (t.hood.length ≤ 40) && (decide (t.nodes.length ≤ 400) && t.nodes.all fun n=>decide (n.2.length ≤ 20))):=rfl
 refine gives_pur rfl rfl rfl rfl rfl ?_
 by_cases h1 : (40 : Int) < t.hood.length
 ·have e : fewB t = false:=by rw [eF,decide_eq_false (by omega)]; rfl
  simp (maxSteps:=2000000) (disch:=omega) [gd_in,gd_and,wr_i64,hrn,hrh,h1,e]
 by_cases h2 : (400 : Int) < es.length
 ·have e : fewB t = false:=by rw [eF,decide_eq_false (by omega : ¬ t.nodes.length ≤ 400)]; simp
  simp (maxSteps:=2000000) (disch:=omega) [gd_in,gd_and,wr_i64,hrn,hrh,h1,h2,e]
 have e : fewB t = t.nodes.all fun n=>decide (n.2.length ≤ 20):=by rw [eF,decide_eq_true (by omega),decide_eq_true (by omega : t.nodes.length ≤ 400)]; simp
 rw [e]
 simp (maxSteps:=2000000) (disch:=omega) [gd_in,gd_and,wr_i64,hrn,hrh,h1,h2]
 refine (?key : ∀ (i : Nat) (B : List (Nat × List V)),i ≤ es.length → getB B 1 = some [.m (.i .i64 t.states),.m h,.m n] → (t.nodes.all fun n=>decide (n.2.length ≤ 20)) = ((t.nodes.drop i).all fun n=>decide (n.2.length ≤ 20)) → Run G c10_B0 (S10_0 (.fa 1 0) (.m (.i .i64 es.length)) (.m (.i .i64 (i : Int))) B []) _) 0 _ (Nat.zero_le _) rfl rfl
 refine indM (fun i : Nat=>es.length - i) fun i ih B hi hB hI=>?_
 unfold c10_B0
 cases hx : t.nodes[i]? with
 | none =>
  have : i = es.length:=by have:=List.getElem?_eq_none_iff.1 hx; omega
  subst this
  rw [← hln,List.drop_length] at hI
  have hI : (t.nodes.all fun n=>decide (n.2.length ≤ 20)) = true:=hI
  simp (maxSteps:=2000000) (disch:=omega) [gd_in,gd_and,wr_i64,hI]
 | some nd =>
  have hlt:=(get_drop hx).1
  have hlt1 : i < es.length:=by omega
  have hlt2 : (i : Int) < es.length:=by omega
  obtain ⟨z,hz,hzs,hzl,_⟩:=treeV_at hT hx
  have hrz:=hzs.rules
  simp only [celI_len] at hrz
  have wi : wr .i64 ((i : Int) + 1) = ((i + 1 : Nat) : Int):=wr_i64 (by omega) (by omega)
  rw [(get_drop hx).2,List.all_cons] at hI
  by_cases h20 : (20 : Int) < nd.2.length
  ·have e : (t.nodes.all fun n=>decide (n.2.length ≤ 20)) = false:=by rw [hI,decide_eq_false (by omega : ¬ nd.2.length ≤ 20)]; rfl
   simp (maxSteps:=2000000) (disch:=omega) [gd_in,gd_and,wr_i64,hrn,hlt1,hlt2,hz,hrz,hB,h20,e]
  ·rw [decide_eq_true (by omega : nd.2.length ≤ 20),Bool.true_and] at hI
   have k:=ih (i + 1) (by omega) B (by omega) hB hI
   simp (maxSteps:=2000000) (disch:=omega) [gd_in,gd_and,wr_i64,hrn,hlt1,hlt2,hz,hrz,hB,h20,wi,-Int.natCast_add]
   exact k
theorem fit_point {B n : Nat} {l : List I} (h : Fits Go.Proofs.Tryz.prog B (n + 2) 46 l) : ∃ x : Int × Int,l = [.i .i64 x.1,.i .i64 x.2]:=by
 unfold Fits at h
 rw [Go.Proofs.Tryz.underlying46] at h
 simp only [FitsF] at h
 obtain ⟨x1,y1,rfl,k1,x2,y2,rfl,k2,rfl⟩:=h
 obtain ⟨u,rfl,_⟩:=fit_int k1
 obtain ⟨v,rfl,_⟩:=fit_int k2
 exact ⟨(u,v),rfl⟩
theorem fit_points {es : List (List I)} (h : ∀ x,x ∈ es → ∃ d : Int × Int,x = [.i .i64 d.1,.i .i64 d.2]) : ∃ p,es = cells2 p:=by
 induction es with
 | nil=>exact ⟨[],rfl⟩
 | cons x r ih =>
  obtain ⟨d,rfl⟩:=h x (by simp)
  obtain ⟨p,rfl⟩:=ih fun x hx=>h x (by simp [hx])
  exact ⟨d :: p,rfl⟩
theorem cel_ofN : ∀ {es : List (List I)},(∀ x,x ∈ es → ∃ y : Int,x = [.i .i64 y]) → es = celI (es.map dEn)
 | [],_=>rfl
 | e :: r,h=>by
  obtain ⟨y,rfl⟩:=h e (by simp)
  have:=cel_ofN (es:=r) fun x hx=>h x (by simp [hx])
  show _ :: r = [I.i .i64 (dEn [I.i .i64 y])] :: celI (r.map dEn)
  rw [← this]
  rfl
theorem fit_next {B n : Nat} {l : List I} (h : Fits Go.Proofs.Tryz.prog B (n + 2) 50 l) : ∃ z : I,l = [z] ∧ IsSl z (celI (dIn z)) ∧ (dIn z).length ≤ B ∧ ∀ k,k ∈ dIn z → -9223372036854775808 ≤ k ∧ k ≤ 9223372036854775807:=by
 unfold Fits at h
 rw [Go.Proofs.Tryz.underlying50] at h
 simp only at h
 rcases h with rfl | ⟨es,rfl,hle,hes⟩
 ·exact ⟨_,rfl,isSl_nil,by simp [dIn],by simp [dIn]⟩
 ·refine ⟨_,rfl,?_,by simpa [dIn] using hle,fun k hk=>?_⟩
  ·show IsSl (.sl es) (celI (es.map dEn))
   rw [← cel_ofN fun x hx=>let ⟨y,h1,_⟩:=fit_int (hes x hx); ⟨y,h1⟩]
   exact isSl_sl _
  ·have hk : k ∈ es.map dEn:=hk
   obtain ⟨e,he,rfl⟩:=List.mem_map.1 hk
   obtain ⟨y,rfl,hy⟩:=fit_int (hes e he)
   exact hy
theorem fit_node {B n : Nat} {l : List I} (h : Fits Go.Proofs.Tryz.prog B (n + 3) 52 l) : ∃ (x : Int) (z : I),l = [.i .i64 x,z] ∧ IsSl z (celI (dIn z)) ∧ (dIn z).length ≤ B ∧ ∀ k,k ∈ dIn z → -9223372036854775808 ≤ k ∧ k ≤ 9223372036854775807:=by
 unfold Fits at h
 rw [Go.Proofs.Tryz.underlying52] at h
 simp only [FitsF] at h
 obtain ⟨x1,y1,rfl,k1,x2,y2,rfl,k2,rfl⟩:=h
 obtain ⟨u,rfl,_⟩:=fit_int k1
 obtain ⟨z,rfl,h1,h2,h3⟩:=fit_next k2
 exact ⟨u,z,rfl,h1,h2,h3⟩
theorem aggTree : aggT Go.Proofs.Tryz.prog 31 = some true:=by unfold aggT; rw [Go.Proofs.Tryz.underlying31]; rfl
theorem arg_tree {B n : Nat} {ts : List TypeId} {us : List V} (hB : B ≤ 9223372036854775807) (h : ArgsOk Go.Proofs.Tryz.prog B (n + 5) (31 :: ts) us) :
  ∃ (t : TreeC) (hh nn : I) (es : List (List I)) (r : List V),us = .m (.ag [.i .i64 t.states,hh,nn]) :: r ∧ TreeV t hh nn es ∧ ArgsOk Go.Proofs.Tryz.prog B (n + 5) ts r:=by
 obtain ⟨l,r,rfl,hl,h'⟩:=argsOk_cons h
 unfold Fits at hl
 rw [Go.Proofs.Tryz.underlying31] at hl
 simp only [FitsF] at hl
 obtain ⟨x1,y1,rfl,k1,x2,y2,rfl,k2,x3,y3,rfl,k3,rfl⟩:=hl
 obtain ⟨u,rfl,_⟩:=fit_int k1
 unfold Fits at k2 k3
 rw [Go.Proofs.Tryz.underlying28] at k2
 rw [Go.Proofs.Tryz.underlying29] at k3
 simp only at k2 k3
 have hh : ∃ (v : I) (p : List (Int × Int)),x2 = [v] ∧ IsSl v (cells2 p) ∧ p.length ≤ B:=by
  rcases k2 with rfl | ⟨es,rfl,hle,hes⟩
  ·exact ⟨_,[],rfl,isSl_nil,by simp⟩
  ·obtain ⟨p,rfl⟩:=fit_points fun x hx=>fit_point (hes x hx)
   exact ⟨_,p,rfl,isSl_sl _,by simpa using hle⟩
 have hn : ∃ (v : I) (es : List (List I)),x3 = [v] ∧ IsSl v es ∧ NodesV es ∧ es.length ≤ B:=by
  rcases k3 with rfl | ⟨es,rfl,hle,hes⟩
  ·exact ⟨_,[],rfl,isSl_nil,fun e he=>(by cases he),by simp⟩
  ·refine ⟨_,es,rfl,isSl_sl _,fun e he=>?_,hle⟩
   obtain ⟨x,z,h1,h2,h3,h4⟩:=fit_node (hes e he)
   exact ⟨x,z,h1,h2,by omega,h4⟩
 obtain ⟨hv,p,rfl,h1,h2⟩:=hh
 obtain ⟨nv,es,rfl,h3,h4,h5⟩:=hn
 rw [argV_ag aggTree]
 exact ⟨⟨u,p,es.map dNd⟩,hv,nv,es,r,rfl,⟨h1,h3,h4,rfl,by show p.length ≤ _; omega,by omega⟩,h'⟩
end Go.Mx.Tryz
set_option linter.unusedSimpArgs false
set_option linter.unusedVariables false
set_option linter.unusedSectionVars false
namespace Go.Mx.Tryz

def ndU (l : List Nd) (i : Nat) : Nd:=(l[i]?).getD (0,[])
abbrev WSt:=List Int × List Nd
def kidsP (f : Nat → WSt → WSt × Int) : List Int → WSt → List Int → WSt × List Int
 | [],st,acc=>(st,acc)
 | k :: r,st,acc=>kidsP f r (f k.toNat st).1 (acc ++ [(f k.toNat st).2])
def finP (x : Nd) (k : Nat) (r : WSt × List Int) : WSt × Int:=((r.1.1.set k ((r.1.2.length + 1 : Nat) : Int),r.1.2 ++ [(x.1,r.2)]),((r.1.2.length : Nat) : Int))
def dfsP (l : List Nd) : Nat → Nat → WSt → WSt × Int
 | 0,_,st=>(st,0)
 | n + 1,k,st=>if 0 < (st.1[k]?).getD 0 then (st,(st.1[k]?).getD 0 - 1)
  else finP (ndU l k) k (if 1 < (ndU l k).1 then kidsP (dfsP l n) (ndU l k).2 st [] else (st,(ndU l k).2))
def OkN (l : List Nd) : Prop:=∀ i,i < l.length → 1 ≤ (ndU l i).1 ∧ (ndU l i).1 ≤ 1000 ∧ (ndU l i).2 ≠ [] ∧ (ndU l i).2.length ≤ 100 ∧ (∀ k,k ∈ (ndU l i).2 → -1000000000 ≤ k ∧ k ≤ 1000000000) ∧ (1 < (ndU l i).1 → ∀ k,k ∈ (ndU l i).2 → 0 ≤ k ∧ k.toNat < l.length ∧ (ndU l k.toNat).1 < (ndU l i).1)
def posC (dn : List Int) : Nat:=dn.countP fun v=>decide (0 < v)
structure InvW (l : List Nd) (st : WSt) : Prop where
 len : st.1.length = l.length
 cnt : st.2.length ≤ posC st.1
 val : ∀ v,v ∈ st.1 → 0 ≤ v ∧ v ≤ (st.2.length : Int)
theorem InvW.out_le {l : List Nd} {st : WSt} (h : InvW l st) : st.2.length ≤ l.length:=by
 have:=List.countP_le_length (p:=fun v : Int=>decide (0 < v)) (l:=st.1)
 have h1:=h.cnt
 have h2:=h.len
 unfold posC at h1
 omega
theorem posC_set : ∀ {dn : List Int} {k : Nat} {v : Int},(dn[k]?).getD 0 ≤ 0 → k < dn.length → 0 < v → posC (dn.set k v) = posC dn + 1
 | [],k,v,_,h,_=>by simp at h
 | a :: r,0,v,h0,_,hv=>by
  have : ¬ 0 < a:=by simp at h0; omega
  simp [posC,hv,this]
 | a :: r,k + 1,v,h0,hk,hv=>by
  have ih:=posC_set (dn:=r) (k:=k) (v:=v) (by simpa using h0) (by simpa using hk) hv
  unfold posC at ih ⊢
  rw [List.set_cons_succ,List.countP_cons,List.countP_cons,ih]
  omega
def GrW (l : List Nd) (m : Int) (st st' : WSt) : Prop:=InvW l st' ∧ (∀ i,i < l.length → m ≤ (ndU l i).1 → st'.1[i]? = st.1[i]?) ∧ ∃ t,st'.2 = st.2 ++ t
theorem GrW.refl {l : List Nd} {m : Int} {st : WSt} (h : InvW l st) : GrW l m st st:=⟨h,fun _ _ _=>rfl,[],by simp⟩
theorem GrW.trans {l : List Nd} {m : Int} {a b c : WSt} (h : GrW l m a b) (k : GrW l m b c) : GrW l m a c:=by
 obtain ⟨_,h2,t,h3⟩:=h
 obtain ⟨k1,k2,u,k3⟩:=k
 exact ⟨k1,fun i hi hm=>(k2 i hi hm).trans (h2 i hi hm),t ++ u,by rw [k3,h3,List.append_assoc]⟩
theorem kidsP_gr {l : List Nd} {m : Int} {f : Nat → WSt → WSt × Int} : ∀ (ks : List Int) (st : WSt) (acc : List Int),InvW l st → (∀ k,k ∈ ks → ∀ st,InvW l st → GrW l m st (f k.toNat st).1 ∧ 0 ≤ (f k.toNat st).2 ∧ (f k.toNat st).2 < ((f k.toNat st).1.2.length : Int)) → (∀ v,v ∈ acc → 0 ≤ v ∧ v < (st.2.length : Int)) →
  GrW l m st (kidsP f ks st acc).1 ∧ (∀ v,v ∈ (kidsP f ks st acc).2 → 0 ≤ v ∧ v < ((kidsP f ks st acc).1.2.length : Int)) ∧ (kidsP f ks st acc).2.length = acc.length + ks.length
 | [],st,acc,hi,_,ha=>⟨.refl hi,ha,rfl⟩
 | k :: r,st,acc,hi,hf,ha=>by
  obtain ⟨g1,g2,g3⟩:=hf k (List.mem_cons_self ..) st hi
  obtain ⟨t,ht⟩:=g1.2.2
  obtain ⟨i1,i2,i3⟩:=kidsP_gr (m:=m) r (f k.toNat st).1 (acc ++ [(f k.toNat st).2]) g1.1 (fun j hj=>hf j (List.mem_cons_of_mem _ hj)) fun v hv=>by
   rcases List.mem_append.1 hv with h | h
   ·have:=ha v h
    rw [ht,List.length_append]
    omega
   ·rw [List.mem_singleton] at h
    subst h
    exact ⟨g2,g3⟩
  refine ⟨g1.trans i1,i2,?_⟩
  show (kidsP f r (f k.toNat st).1 (acc ++ [(f k.toNat st).2])).2.length = _
  rw [i3]
  simp
  omega
theorem dfsP_gr {l : List Nd} (hl : OkN l) : ∀ (n k : Nat) (st : WSt),InvW l st → k < l.length → (ndU l k).1 ≤ (n : Int) →
  GrW l ((ndU l k).1 + 1) st (dfsP l n k st).1 ∧ 0 ≤ (dfsP l n k st).2 ∧ (dfsP l n k st).2 < ((dfsP l n k st).1.2.length : Int)
 | 0,k,st,_,hk,hn=>by have:=(hl k hk).1; omega
 | n + 1,k,st,hi,hk,hn=>by
  have e : dfsP l (n + 1) k st = if 0 < (st.1[k]?).getD 0 then (st,(st.1[k]?).getD 0 - 1)
   else finP (ndU l k) k (if 1 < (ndU l k).1 then kidsP (dfsP l n) (ndU l k).2 st [] else (st,(ndU l k).2)):=rfl
  have hkl : k < st.1.length:=by rw [hi.len]; exact hk
  obtain ⟨v,hv⟩ : ∃ v,st.1[k]? = some v:=⟨st.1[k],List.getElem?_eq_getElem hkl⟩
  have hvb:=hi.val v (List.mem_of_getElem? hv)
  rw [e,hv]
  simp only [Option.getD_some]
  by_cases h0 : 0 < v
  ·rw [if_pos h0]
   exact ⟨.refl hi,by simp only; omega,by simp only; omega⟩
  ·rw [if_neg h0]
   obtain ⟨o1,o2,o3,o4,o5,o6⟩:=hl k hk
   have hr : GrW l (ndU l k).1 st (if 1 < (ndU l k).1 then kidsP (dfsP l n) (ndU l k).2 st [] else (st,(ndU l k).2)).1:=by
    by_cases h1 : 1 < (ndU l k).1
    ·rw [if_pos h1]
     refine (kidsP_gr (m:=(ndU l k).1) _ st [] hi (fun j hj s hs=>?_) (by simp)).1
     obtain ⟨q1,q2,q3⟩:=o6 h1 j hj
     obtain ⟨⟨i1,i2,i3⟩,r2,r3⟩:=dfsP_gr hl n j.toNat s hs q2 (by omega)
     exact ⟨⟨i1,fun i hi hm=>i2 i hi (by omega),i3⟩,r2,r3⟩
    ·rw [if_neg h1]
     exact .refl hi
   generalize (if 1 < (ndU l k).1 then kidsP (dfsP l n) (ndU l k).2 st [] else (st,(ndU l k).2)) = r at hr ⊢
   obtain ⟨⟨r1,r2,r3⟩,hr2,t,hr3⟩:=hr
   have hkr : (r.1.1[k]?).getD 0 ≤ 0:=by rw [hr2 k hk (by omega),hv]; simp only [Option.getD_some]; omega
   have hkl2 : k < r.1.1.length:=by rw [r1]; exact hk
   refine ⟨⟨⟨?_,?_,fun u hu=>?_⟩,fun i hi hm=>?_,t ++ [((ndU l k).1,r.2)],?_⟩,?_,?_⟩
   ·show (r.1.1.set k _).length = _
    rw [List.length_set,r1]
   ·show (r.1.2 ++ [((ndU l k).1,r.2)]).length ≤ posC (r.1.1.set k _)
    rw [posC_set hkr hkl2 (by omega),List.length_append]
    simp
    exact r2
   ·have hu : u ∈ r.1.1.set k ((r.1.2.length + 1 : Nat) : Int):=hu
    show 0 ≤ u ∧ u ≤ ((r.1.2 ++ [((ndU l k).1,r.2)]).length : Int)
    rw [List.length_append]
    rcases List.mem_or_eq_of_mem_set hu with h | h
    ·have:=r3 u h
     simp
     omega
    ·subst h
     simp
     omega
   ·show (r.1.1.set k _)[i]? = _
    have hne : k ≠ i:=fun e=>by subst e; omega
    rw [List.getElem?_set_ne hne]
    exact hr2 i hi (by omega)
   ·show r.1.2 ++ _ = _
    rw [hr3,List.append_assoc]
   ·show (0 : Int) ≤ ((r.1.2.length : Nat) : Int)
    omega
   ·show ((r.1.2.length : Nat) : Int) < ((r.1.2 ++ [((ndU l k).1,r.2)]).length : Int)
    rw [List.length_append]
    simp
    omega
end Go.Mx.Tryz
set_option linter.unusedSimpArgs false
set_option linter.unusedVariables false
set_option linter.unusedSectionVars false
namespace Go.Mx.Tryz

def finR (x : Nd) (i : Nat) (r : WSt × List Int) : WSt:=(r.1.1.set i ((r.1.2.length : Nat) : Int),r.1.2 ++ [(x.1,r.2)])
def clA (cl : List Int) (k : Int) : Int:=(cl[k.toNat]?).getD 0
def dfsR (l : List Nd) (cl : List Int) : Nat → Nat → WSt → WSt
 | 0,_,st=>st
 | n + 1,i,st=>if 0 ≤ (st.1[i]?).getD 0 then st
  else finR (ndU l i) i (if 1 < (ndU l i).1 then kidsP (fun j s=>(dfsR l cl n j s,((dfsR l cl n j s).1[j]?).getD 0)) ((ndU l i).2.map (clA cl)) st [] else (st,(ndU l i).2))
def OkC (l : List Nd) (cl : List Int) : Prop:=∀ i,i < l.length → 1 ≤ (ndU l i).1 ∧ (ndU l i).1 ≤ 1000 ∧ (ndU l i).2 ≠ [] ∧ (ndU l i).2.length ≤ 100 ∧ (∀ k,k ∈ (ndU l i).2 → -1000000000 ≤ k ∧ k ≤ 1000000000) ∧ (1 < (ndU l i).1 → ∀ k,k ∈ (ndU l i).2 → 0 ≤ k ∧ k.toNat < cl.length ∧ 0 ≤ clA cl k ∧ (clA cl k).toNat < l.length ∧ (ndU l (clA cl k).toNat).1 < (ndU l i).1)
def posR (dn : List Int) : Nat:=dn.countP fun v=>decide (0 ≤ v)
structure InvR (l : List Nd) (st : WSt) : Prop where
 len : st.1.length = l.length
 cnt : st.2.length ≤ posR st.1
 val : ∀ v,v ∈ st.1 → -1 ≤ v ∧ v < (st.2.length : Int)
theorem InvR.out_le {l : List Nd} {st : WSt} (h : InvR l st) : st.2.length ≤ l.length:=by
 have:=List.countP_le_length (p:=fun v : Int=>decide (0 ≤ v)) (l:=st.1)
 have h1:=h.cnt
 have h2:=h.len
 unfold posR at h1
 omega
theorem posR_set : ∀ {dn : List Int} {k : Nat} {v : Int},(dn[k]?).getD 0 < 0 → k < dn.length → 0 ≤ v → posR (dn.set k v) = posR dn + 1
 | [],k,v,_,h,_=>by simp at h
 | a :: r,0,v,h0,_,hv=>by
  have : ¬ 0 ≤ a:=by simp at h0; omega
  simp [posR,hv,this]
 | a :: r,k + 1,v,h0,hk,hv=>by
  have ih:=posR_set (dn:=r) (k:=k) (v:=v) (by simpa using h0) (by simpa using hk) hv
  unfold posR at ih ⊢
  rw [List.set_cons_succ,List.countP_cons,List.countP_cons,ih]
  omega
def GrR (l : List Nd) (m : Int) (st st' : WSt) : Prop:=InvR l st' ∧ (∀ i,i < l.length → m ≤ (ndU l i).1 → st'.1[i]? = st.1[i]?) ∧ ∃ t,st'.2 = st.2 ++ t
theorem GrR.refl {l : List Nd} {m : Int} {st : WSt} (h : InvR l st) : GrR l m st st:=⟨h,fun _ _ _=>rfl,[],by simp⟩
theorem GrR.trans {l : List Nd} {m : Int} {a b c : WSt} (h : GrR l m a b) (k : GrR l m b c) : GrR l m a c:=by
 obtain ⟨_,h2,t,h3⟩:=h
 obtain ⟨k1,k2,u,k3⟩:=k
 exact ⟨k1,fun i hi hm=>(k2 i hi hm).trans (h2 i hi hm),t ++ u,by rw [k3,h3,List.append_assoc]⟩
theorem kidsR_gr {l : List Nd} {m : Int} {f : Nat → WSt → WSt × Int} : ∀ (ks : List Int) (st : WSt) (acc : List Int),InvR l st → (∀ k,k ∈ ks → ∀ st,InvR l st → GrR l m st (f k.toNat st).1 ∧ 0 ≤ (f k.toNat st).2 ∧ (f k.toNat st).2 < ((f k.toNat st).1.2.length : Int)) → (∀ v,v ∈ acc → 0 ≤ v ∧ v < (st.2.length : Int)) →
  GrR l m st (kidsP f ks st acc).1 ∧ (∀ v,v ∈ (kidsP f ks st acc).2 → 0 ≤ v ∧ v < ((kidsP f ks st acc).1.2.length : Int)) ∧ (kidsP f ks st acc).2.length = acc.length + ks.length
 | [],st,acc,hi,_,ha=>⟨.refl hi,ha,rfl⟩
 | k :: r,st,acc,hi,hf,ha=>by
  obtain ⟨g1,g2,g3⟩:=hf k (List.mem_cons_self ..) st hi
  obtain ⟨t,ht⟩:=g1.2.2
  obtain ⟨i1,i2,i3⟩:=kidsR_gr (m:=m) r (f k.toNat st).1 (acc ++ [(f k.toNat st).2]) g1.1 (fun j hj=>hf j (List.mem_cons_of_mem _ hj)) fun v hv=>by
   rcases List.mem_append.1 hv with h | h
   ·have:=ha v h
    rw [ht,List.length_append]
    omega
   ·rw [List.mem_singleton] at h
    subst h
    exact ⟨g2,g3⟩
  refine ⟨g1.trans i1,i2,?_⟩
  show (kidsP f r (f k.toNat st).1 (acc ++ [(f k.toNat st).2])).2.length = _
  rw [i3]
  simp
  omega
theorem dfsR_gr {l : List Nd} {cl : List Int} (hl : OkC l cl) : ∀ (n k : Nat) (st : WSt),InvR l st → k < l.length → (ndU l k).1 ≤ (n : Int) →
  GrR l ((ndU l k).1 + 1) st (dfsR l cl n k st) ∧ 0 ≤ ((dfsR l cl n k st).1[k]?).getD 0 ∧ ((dfsR l cl n k st).1[k]?).getD 0 < ((dfsR l cl n k st).2.length : Int)
 | 0,k,st,_,hk,hn=>by have:=(hl k hk).1; omega
 | n + 1,k,st,hi,hk,hn=>by
  have e : dfsR l cl (n + 1) k st = if 0 ≤ (st.1[k]?).getD 0 then st
   else finR (ndU l k) k (if 1 < (ndU l k).1 then kidsP (fun j s=>(dfsR l cl n j s,((dfsR l cl n j s).1[j]?).getD 0)) ((ndU l k).2.map (clA cl)) st [] else (st,(ndU l k).2)):=rfl
  have hkl : k < st.1.length:=by rw [hi.len]; exact hk
  obtain ⟨v,hv⟩ : ∃ v,st.1[k]? = some v:=⟨st.1[k],List.getElem?_eq_getElem hkl⟩
  have hvb:=hi.val v (List.mem_of_getElem? hv)
  rw [e,hv]
  simp only [Option.getD_some]
  by_cases h0 : 0 ≤ v
  ·rw [if_pos h0,hv]
   exact ⟨.refl hi,by simpa using h0,by simpa using hvb.2⟩
  ·rw [if_neg h0]
   obtain ⟨o1,o2,o3,o4,o5,o6⟩:=hl k hk
   have hr : GrR l (ndU l k).1 st (if 1 < (ndU l k).1 then kidsP (fun j s=>(dfsR l cl n j s,((dfsR l cl n j s).1[j]?).getD 0)) ((ndU l k).2.map (clA cl)) st [] else (st,(ndU l k).2)).1:=by
    by_cases h1 : 1 < (ndU l k).1
    ·rw [if_pos h1]
     refine (kidsR_gr (m:=(ndU l k).1) _ st [] hi (fun j hj s hs=>?_) (by simp)).1
     obtain ⟨q,hq,rfl⟩:=List.mem_map.1 hj
     obtain ⟨_,_,q1,q2,q3⟩:=o6 h1 q hq
     obtain ⟨⟨i1,i2,i3⟩,r2,r3⟩:=dfsR_gr hl n (clA cl q).toNat s hs q2 (by omega)
     exact ⟨⟨i1,fun i hi hm=>i2 i hi (by omega),i3⟩,r2,r3⟩
    ·rw [if_neg h1]
     exact .refl hi
   generalize (if 1 < (ndU l k).1 then kidsP (fun j s=>(dfsR l cl n j s,((dfsR l cl n j s).1[j]?).getD 0)) ((ndU l k).2.map (clA cl)) st [] else (st,(ndU l k).2)) = r at hr ⊢
   obtain ⟨⟨r1,r2,r3⟩,hr2,t,hr3⟩:=hr
   have hkr : (r.1.1[k]?).getD 0 < 0:=by rw [hr2 k hk (by omega),hv]; simp only [Option.getD_some]; omega
   have hkl2 : k < r.1.1.length:=by rw [r1]; exact hk
   have hself : ((finR (ndU l k) k r).1[k]?).getD 0 = ((r.1.2.length : Nat) : Int):=by
    show ((r.1.1.set k _)[k]?).getD 0 = _
    rw [List.getElem?_set_self hkl2]
    rfl
   refine ⟨⟨⟨?_,?_,fun u hu=>?_⟩,fun i hi hm=>?_,t ++ [((ndU l k).1,r.2)],?_⟩,?_,?_⟩
   ·show (r.1.1.set k _).length = _
    rw [List.length_set,r1]
   ·show (r.1.2 ++ [((ndU l k).1,r.2)]).length ≤ posR (r.1.1.set k _)
    rw [posR_set hkr hkl2 (by omega),List.length_append]
    simp
    exact r2
   ·have hu : u ∈ r.1.1.set k ((r.1.2.length : Nat) : Int):=hu
    show -1 ≤ u ∧ u < ((r.1.2 ++ [((ndU l k).1,r.2)]).length : Int)
    rw [List.length_append]
    rcases List.mem_or_eq_of_mem_set hu with h | h
    ·have:=r3 u h
     simp
     omega
    ·subst h
     simp
     omega
   ·show (r.1.1.set k _)[i]? = _
    have hne : k ≠ i:=fun e=>by subst e; omega
    rw [List.getElem?_set_ne hne]
    exact hr2 i hi (by omega)
   ·show r.1.2 ++ _ = _
    rw [hr3,List.append_assoc]
   ·rw [hself]
    omega
   ·rw [hself]
    show ((r.1.2.length : Nat) : Int) < ((r.1.2 ++ [((ndU l k).1,r.2)]).length : Int)
    rw [List.length_append]
    simp
    omega
end Go.Mx.Tryz
set_option linter.unusedSimpArgs false
set_option linter.unusedVariables false
set_option linter.unusedSectionVars false
namespace Go.Mx.Tryz
open Go.Lib Go.Proofs

set_option maxHeartbeats 4000000 in
theorem same_t {a b : TreeC} {h n h' n' : I} {es es' : List (List I)} (hA : TreeV a h n es) (hB : TreeV b h' n' es') (H : Hp) : Gives G 14 [.m (.ag [.i .i64 a.states,h,n]),.m (.ag [.i .i64 b.states,h',n'])] H (.m (.b (decide (a.states = b.states ∧ a.hood = b.hood ∧ a.nodes = b.nodes)))) H:=by
 have r1:=hA.hd.rules
 have r2:=hB.hd.rules
 simp only [cells2_len] at r1 r2
 have r3:=hA.nd.rules
 have r4:=hB.nd.rules
 have hla:=treeV_len hA
 have hlb:=treeV_len hB
 have b1:=hA.hl
 have b2:=hB.hl
 have b3:=hA.nl
 have b4:=hB.nl
 refine gives_pur rfl rfl rfl rfl rfl ?_
 generalize hE : decide (a.states = b.states ∧ a.hood = b.hood ∧ a.nodes = b.nodes) = E
 have no : (¬ (a.states = b.states ∧ a.hood = b.hood ∧ a.nodes = b.nodes)) → E = false:=fun h=>by rw [← hE]; exact decide_eq_false h
 by_cases e1 : a.states = b.states
 case neg =>
  have k:=no fun h=>e1 h.1
  simp (maxSteps:=2000000) (disch:=omega) [gd_in,gd_and,wr_i64,gcall_cx,r1,r2,r3,r4,e1,k]
 by_cases e2 : a.hood.length = b.hood.length
 case neg =>
  have k:=no fun h=>e2 (by rw [h.2.1])
  have e2' : ¬ (a.hood.length : Int) = b.hood.length:=by omega
  simp (maxSteps:=2000000) (disch:=omega) [gd_in,gd_and,wr_i64,gcall_cx,r1,r2,r3,r4,e1,e2,e2',k]
 by_cases e3 : es.length = es'.length
 case neg =>
  have k:=no fun h=>e3 (by rw [← hla,← hlb,h.2.2])
  have e3' : ¬ (es.length : Int) = es'.length:=by omega
  simp (maxSteps:=2000000) (disch:=omega) [gd_in,gd_and,wr_i64,gcall_cx,r1,r2,r3,r4,e1,e2,e3,e3',k]
 simp (maxSteps:=2000000) (disch:=omega) [gd_in,gd_and,wr_i64,gcall_cx,r1,r2,r3,r4,e1,e2,e3]
 refine (?key0 : ∀ (i : Nat) (B : List (Nat × List V)),i ≤ b.hood.length → getB B 2 = some [.m (.i .i64 b.states),.m h,.m n] → getB B 3 = some [.m (.i .i64 b.states),.m h',.m n'] → a.hood.take i = b.hood.take i →
  Run G c14_B0 (S14_0 (.fa 2 0) (.fa 3 0) (.m (.i .i64 (i : Int))) B []) _) 0 _ (Nat.zero_le _) rfl rfl rfl
 refine indM (fun i : Nat=>b.hood.length - i) fun i ih B hi h2 h3 hI=>?_
 unfold c14_B0
 cases hx : b.hood[i]? with
 | some q =>
  have hlt:=(List.getElem?_eq_some_iff.1 hx).1
  have hlt' : (i : Int) < b.hood.length:=by omega
  obtain ⟨p,hp⟩ : ∃ p,a.hood[i]? = some p:=⟨a.hood[i],List.getElem?_eq_getElem (by omega)⟩
  have n1:=cells2_nth hp
  have n2:=cells2_nth hx
  have wi : wr .i64 ((i : Int) + 1) = ((i + 1 : Nat) : Int):=wr_i64 (by omega) (by omega)
  by_cases e : p = q
  ·have k:=ih (i + 1) (by omega) B (by omega) h2 h3 (take_ext hI hp hx e)
   subst e
   simp (maxSteps:=2000000) (disch:=omega) [gd_in,gd_and,wr_i64,r1,r2,h2,h3,e2,hlt,hlt',n1,n2,wi,-Int.natCast_add]
   exact k
  ·have k:=no fun h=>e (by have:=congrArg (fun l=>l[i]?) h.2.1; simp only [hp,hx] at this; exact Option.some.inj this)
   have e' : (!decide (p.1 = q.1) || !decide (p.2 = q.2)) = true:=by
    by_cases u : p.1 = q.1
    ·by_cases w : p.2 = q.2
     ·exact absurd (Prod.ext u w) e
     ·simp [w]
    ·simp [u]
   simp (maxSteps:=2000000) (disch:=omega) [gd_in,gd_and,wr_i64,r1,r2,h2,h3,e2,hlt,hlt',n1,n2,e',k]
 | none =>
 have : i = b.hood.length:=by have:=List.getElem?_eq_none_iff.1 hx; omega
 subst this
 rw [List.take_length,← e2,List.take_length] at hI
 simp (maxSteps:=2000000) (disch:=omega) [gd_in,gd_and,wr_i64,r1,r2,h2,h3,e2]
 clear ih hx hi
 refine (?key2 : ∀ (i : Nat) (B : List (Nat × List V)),i ≤ es'.length → getB B 2 = some [.m (.i .i64 b.states),.m h,.m n] → getB B 3 = some [.m (.i .i64 b.states),.m h',.m n'] → a.nodes.take i = b.nodes.take i →
  Run G c14_B2 (S14_2 (.fa 2 0) (.fa 3 0) (.m (.i .i64 (i : Int))) B []) _) 0 B (Nat.zero_le _) h2 h3 rfl
 clear h2 h3 B
 refine indM (fun i : Nat=>es'.length - i) fun i ih B hi h2 h3 hN=>?_
 unfold c14_B2
 cases hx : b.nodes[i]? with
 | none =>
  have : i = es'.length:=by have:=List.getElem?_eq_none_iff.1 hx; omega
  subst this
  rw [List.take_of_length_le (by omega),List.take_of_length_le (by omega)] at hN
  have k : E = true:=by rw [← hE]; exact decide_eq_true ⟨e1,hI,hN⟩
  simp (maxSteps:=2000000) (disch:=omega) [gd_in,gd_and,wr_i64,r3,r4,h2,h3,e3,k]
 | some y =>
  have hlt:=(List.getElem?_eq_some_iff.1 hx).1
  rw [hlb] at hlt
  have hlt' : (i : Int) < es'.length:=by omega
  obtain ⟨x,hp⟩ : ∃ x,a.nodes[i]? = some x:=⟨a.nodes[i],List.getElem?_eq_getElem (by omega)⟩
  obtain ⟨zx,x1,x2,x3,_⟩:=treeV_at hA hp
  obtain ⟨zy,y1,y2,y3,_⟩:=treeV_at hB hx
  have rx:=x2.rules
  have ry:=y2.rules
  simp only [celI_len] at rx ry
  have cx:=isSl_1 x2
  have cy:=isSl_1 y2
  have cx2 : cellsV (.m zx) = some [.m zx]:=by rcases x2 with rfl | ⟨rfl,_⟩ <;> rfl
  have cy2 : cellsV (.m zy) = some [.m zy]:=by rcases y2 with rfl | ⟨rfl,_⟩ <;> rfl
  have wi : wr .i64 ((i : Int) + 1) = ((i + 1 : Nat) : Int):=wr_i64 (by omega) (by omega)
  have ne : x ≠ y → E = false:=fun hxy=>no fun h=>hxy (by have:=congrArg (fun l=>l[i]?) h.2.2; simp only [hp,hx] at this; exact Option.some.inj this)
  by_cases u1 : x.1 = y.1
  ·by_cases u2 : x.2.length = y.2.length
   ·simp (maxSteps:=2000000) (disch:=omega) [gd_in,gd_and,wr_i64,gcall_cx,r3,r4,h2,h3,e3,hlt,hlt',x1,y1,cx,cy,cx2,cy2,rx,ry,u1,u2,-Int.natCast_add]
    refine (?key1 : ∀ (j : Nat) (B : List (Nat × List V)),j ≤ y.2.length → getB B 2 = some [.m (.i .i64 b.states),.m h,.m n] → getB B 3 = some [.m (.i .i64 b.states),.m h',.m n'] → getB B 7 = some [.m (.i .i64 y.1),.m zx] → getB B 8 = some [.m (.i .i64 y.1),.m zy] → x.2.take j = y.2.take j →
     Run G c14_B1 (S14_1 (.fa 2 0) (.fa 3 0) (.m (.i .i64 (i : Int))) (.fa 7 0) (.fa 8 0) (.m (.i .i64 (j : Int))) B []) _) 0 _ (Nat.zero_le _) (by simp [h2]) (by simp [h3]) (by simp) (by simp) rfl
    clear h2 h3 B
    refine indM (fun j : Nat=>y.2.length - j) fun j ihj B hj h2 h3 h7 h8 hX=>?_
    unfold c14_B1
    cases hv : y.2[j]? with
    | none =>
     have : j = y.2.length:=by have:=List.getElem?_eq_none_iff.1 hv; omega
     subst this
     rw [List.take_length,← u2,List.take_length] at hX
     have k:=ih (i + 1) (by omega) B (by omega) h2 h3 (take_ext hN hp hx (Prod.ext u1 hX))
     simp (maxSteps:=2000000) (disch:=omega) [gd_in,gd_and,wr_i64,h7,h8,rx,ry,u2,wi,-Int.natCast_add]
     exact k
    | some w =>
     have hltj:=(List.getElem?_eq_some_iff.1 hv).1
     have hltj' : (j : Int) < y.2.length:=by omega
     obtain ⟨v,hp2⟩ : ∃ v,x.2[j]? = some v:=⟨x.2[j],List.getElem?_eq_getElem (by omega)⟩
     have m1:=celI_nth hp2
     have m2:=celI_nth hv
     have wj : wr .i64 ((j : Int) + 1) = ((j + 1 : Nat) : Int):=wr_i64 (by omega) (by omega)
     by_cases e : v = w
     ·have k:=ihj (j + 1) (by omega) B (by omega) h2 h3 h7 h8 (take_ext hX hp2 hv e)
      subst e
      simp (maxSteps:=2000000) (disch:=omega) [gd_in,gd_and,wr_i64,h7,h8,rx,ry,u2,hltj,hltj',m1,m2,wj,-Int.natCast_add]
      exact k
     ·have k:=ne fun h=>e (by have:=congrArg (fun l=>l.2[j]?) h; simp only [hp2,hv] at this; exact Option.some.inj this)
      simp (maxSteps:=2000000) (disch:=omega) [gd_in,gd_and,wr_i64,h7,h8,rx,ry,u2,hltj,hltj',m1,m2,e,k,-Int.natCast_add]
   ·have k:=ne fun e=>u2 (by rw [e])
    have u2' : ¬ (x.2.length : Int) = y.2.length:=by omega
    simp (maxSteps:=2000000) (disch:=omega) [gd_in,gd_and,wr_i64,gcall_cx,r3,r4,h2,h3,e3,hlt,hlt',x1,y1,cx,cy,cx2,cy2,rx,ry,u1,u2,u2',k,-Int.natCast_add]
  ·have k:=ne fun e=>u1 (by rw [e])
   simp (maxSteps:=2000000) (disch:=omega) [gd_in,gd_and,wr_i64,gcall_cx,r3,r4,h2,h3,e3,hlt,hlt',x1,y1,cx,cy,cx2,cy2,rx,ry,u1,k,-Int.natCast_add]
end Go.Mx.Tryz
set_option linter.unusedSimpArgs false
set_option linter.unusedVariables false
set_option linter.unusedSectionVars false
namespace Go.Mx.Tryz
open Go.Lib Go.Proofs

theorem same13_r {z y : I} {c d : List Int} (hz : IsSl z (celI c)) (hy : IsSl y (celI d)) (hc : c.length ≤ 9223372036854775807) (H : Hp) : Gives G 108 [.m z,.m y] H (.m (.b (decide (c = d)))) H:=by
 have rx:=hz.rules
 have ry:=hy.rules
 simp only [celI_len] at rx ry
 refine gives_pur rfl rfl rfl rfl rfl ?_
 generalize hE : decide (c = d) = E
 have no : c ≠ d → E = false:=fun h=>by rw [← hE]; exact decide_eq_false h
 by_cases u2 : c.length = d.length
 case neg =>
  have k:=no fun e=>u2 (by rw [e])
  have u2' : ¬ (c.length : Int) = d.length:=by omega
  simp (maxSteps:=2000000) (disch:=omega) [gd_in,gd_and,wr_i64,rx,ry,u2,u2',k]
 simp (maxSteps:=2000000) (disch:=omega) [gd_in,gd_and,wr_i64,rx,ry,u2]
 refine (?key : ∀ (j : Nat) (B : List (Nat × List V)),j ≤ d.length → c.take j = d.take j → Run G c108_B0 (S108_0 (.m z) (.m y) (.m (.i .i64 (j : Int))) B []) _) 0 _ (Nat.zero_le _) rfl
 refine indM (fun j : Nat=>d.length - j) fun j ih B hj hX=>?_
 unfold c108_B0
 cases hv : d[j]? with
 | none =>
  have : j = d.length:=by have:=List.getElem?_eq_none_iff.1 hv; omega
  subst this
  rw [List.take_length,← u2,List.take_length] at hX
  have k : E = true:=by rw [← hE]; exact decide_eq_true hX
  simp (maxSteps:=2000000) (disch:=omega) [gd_in,gd_and,wr_i64,rx,ry,u2,k]
 | some w =>
  have hltj:=(List.getElem?_eq_some_iff.1 hv).1
  have hltj' : (j : Int) < d.length:=by omega
  obtain ⟨v,hp2⟩ : ∃ v,c[j]? = some v:=⟨c[j],List.getElem?_eq_getElem (by omega)⟩
  have m1:=celI_nth hp2
  have m2:=celI_nth hv
  have wj : wr .i64 ((j : Int) + 1) = ((j + 1 : Nat) : Int):=wr_i64 (by omega) (by omega)
  by_cases e : v = w
  ·have k:=ih (j + 1) (by omega) B (by omega) (take_ext hX hp2 hv e)
   subst e
   simp (maxSteps:=2000000) (disch:=omega) [gd_in,gd_and,wr_i64,rx,ry,u2,hltj,hltj',m1,m2,wj,-Int.natCast_add]
   exact k
  ·have k:=no fun h=>e (by have:=congrArg (fun l=>l[j]?) h; simp only [hp2,hv] at this; exact Option.some.inj this)
   simp (maxSteps:=2000000) (disch:=omega) [gd_in,gd_and,wr_i64,rx,ry,u2,hltj,hltj',m1,m2,e,k,-Int.natCast_add]

set_option maxHeartbeats 2000000 in
theorem equal58_r {zx zy : I} {x y : Int × List Int} (hx2 : IsSl zx (celI x.2)) (hy2 : IsSl zy (celI y.2)) (hc : x.2.length ≤ 9223372036854775807) (H : Hp) : Gives G 39 [.m (.ag [.i .i64 x.1,zx]),.m (.ag [.i .i64 y.1,zy])] H (.m (.b (decide (x = y)))) H:=by
 have rx:=hx2.rules
 have ry:=hy2.rules
 simp only [celI_len] at rx ry
 have cx:=isSl_1 hx2
 have cy:=isSl_1 hy2
 have cx2 : cellsV (.m zx) = some [.m zx]:=by rcases hx2 with rfl | ⟨rfl,_⟩ <;> rfl
 have cy2 : cellsV (.m zy) = some [.m zy]:=by rcases hy2 with rfl | ⟨rfl,_⟩ <;> rfl
 refine gives_pur rfl rfl rfl rfl rfl ?_
 generalize hE : decide (x = y) = E
 have no : x ≠ y → E = false:=fun h=>by rw [← hE]; exact decide_eq_false h
 by_cases u1 : x.1 = y.1
 case neg =>
  have k:=no fun e=>u1 (by rw [e])
  simp (maxSteps:=2000000) (disch:=omega) [gd_in,gd_and,wr_i64,gcall_cx,cx,cy,cx2,cy2,rx,ry,u1,k]
 by_cases u2 : x.2.length = y.2.length
 case neg =>
  have k:=no fun e=>u2 (by rw [e])
  have u2' : ¬ (x.2.length : Int) = y.2.length:=by omega
  simp (maxSteps:=2000000) (disch:=omega) [gd_in,gd_and,wr_i64,gcall_cx,cx,cy,cx2,cy2,rx,ry,u1,u2,u2',k]
 simp (maxSteps:=2000000) (disch:=omega) [gd_in,gd_and,wr_i64,gcall_cx,cx,cy,cx2,cy2,rx,ry,u1,u2]
 refine (?key : ∀ (j : Nat) (B : List (Nat × List V)),j ≤ y.2.length → getB B 2 = some [.m (.i .i64 y.1),.m zx] → getB B 3 = some [.m (.i .i64 y.1),.m zy] → x.2.take j = y.2.take j →
  Run G c39_B0 (S39_0 (.fa 2 0) (.fa 3 0) (.m (.i .i64 (j : Int))) B []) _) 0 _ (Nat.zero_le _) rfl rfl rfl
 refine indM (fun j : Nat=>y.2.length - j) fun j ih B hj h2 h3 hX=>?_
 unfold c39_B0
 cases hv : y.2[j]? with
 | none =>
  have : j = y.2.length:=by have:=List.getElem?_eq_none_iff.1 hv; omega
  subst this
  rw [List.take_length,← u2,List.take_length] at hX
  have k : E = true:=by rw [← hE]; exact decide_eq_true (Prod.ext u1 hX)
  simp (maxSteps:=2000000) (disch:=omega) [gd_in,gd_and,wr_i64,h2,h3,rx,ry,u2,k]
 | some w =>
  have hltj:=(List.getElem?_eq_some_iff.1 hv).1
  have hltj' : (j : Int) < y.2.length:=by omega
  obtain ⟨v,hp2⟩ : ∃ v,x.2[j]? = some v:=⟨x.2[j],List.getElem?_eq_getElem (by omega)⟩
  have m1:=celI_nth hp2
  have m2:=celI_nth hv
  have wj : wr .i64 ((j : Int) + 1) = ((j + 1 : Nat) : Int):=wr_i64 (by omega) (by omega)
  by_cases e : v = w
  ·have k:=ih (j + 1) (by omega) B (by omega) h2 h3 (take_ext hX hp2 hv e)
   subst e
   simp (maxSteps:=2000000) (disch:=omega) [gd_in,gd_and,wr_i64,h2,h3,rx,ry,u2,hltj,hltj',m1,m2,wj,-Int.natCast_add]
   exact k
  ·have k:=no fun h=>e (by have:=congrArg (fun l=>l.2[j]?) h; simp only [hp2,hv] at this; exact Option.some.inj this)
   simp (maxSteps:=2000000) (disch:=omega) [gd_in,gd_and,wr_i64,h2,h3,rx,ry,u2,hltj,hltj',m1,m2,e,k,-Int.natCast_add]
end Go.Mx.Tryz
set_option linter.unusedSimpArgs false
set_option linter.unusedVariables false
set_option linter.unusedSectionVars false
namespace Go.Mx.Tryz
open Go.Lib Go.Proofs

theorem slC {y : I} {es : List (List I)} (h : IsSl y es) : cellsV (.m y) = some [.m y]:=by rcases h with rfl | ⟨rfl,_⟩ <;> rfl
theorem eqP_s {z y : I} {c d : List (Int × Int)} (hz : IsSl z (cells2 c)) (hy : IsSl y (cells2 d)) (hc : c.length ≤ 9223372036854775807) (H : Hp) : Gives G 103 [.m z,.m y] H (.m (.b (decide (c = d)))) H:=by
 have rx:=hz.rules
 have ry:=hy.rules
 simp only [cells2_len] at rx ry
 refine gives_pur rfl rfl rfl rfl rfl ?_
 generalize hE : decide (c = d) = E
 have no : c ≠ d → E = false:=fun h=>by rw [← hE]; exact decide_eq_false h
 by_cases u2 : c.length = d.length
 case neg =>
  have k:=no fun e=>u2 (by rw [e])
  have u2' : ¬ (c.length : Int) = d.length:=by omega
  simp (maxSteps:=2000000) (disch:=omega) [gd_in,gd_and,wr_i64,rx,ry,u2,u2',k]
 simp (maxSteps:=2000000) (disch:=omega) [gd_in,gd_and,wr_i64,rx,ry,u2]
 refine (?key : ∀ (j : Nat) (B : List (Nat × List V)),j ≤ d.length → c.take j = d.take j → Run G c103_B0 (S103_0 (.m z) (.m y) (.m (.i .i64 (d.length : Int))) (.m (.i .i64 (j : Int))) B []) _) 0 _ (Nat.zero_le _) rfl
 refine indM (fun j : Nat=>d.length - j) fun j ih B hj hX=>?_
 unfold c103_B0
 cases hv : d[j]? with
 | none =>
  have : j = d.length:=by have:=List.getElem?_eq_none_iff.1 hv; omega
  subst this
  rw [List.take_length,← u2,List.take_length] at hX
  have k : E = true:=by rw [← hE]; exact decide_eq_true hX
  simp (maxSteps:=2000000) (disch:=omega) [gd_in,gd_and,wr_i64,rx,ry,u2,k]
 | some q =>
  have hltj:=(List.getElem?_eq_some_iff.1 hv).1
  have hltj' : (j : Int) < d.length:=by omega
  obtain ⟨p,hp⟩ : ∃ v,c[j]? = some v:=⟨c[j],List.getElem?_eq_getElem (by omega)⟩
  have m1:=cells2_nth hp
  have m2:=cells2_nth hv
  have wj : wr .i64 ((j : Int) + 1) = ((j + 1 : Nat) : Int):=wr_i64 (by omega) (by omega)
  by_cases e : p = q
  ·have k:=ih (j + 1) (by omega) B (by omega) (take_ext hX hp hv e)
   subst e
   simp (maxSteps:=2000000) (disch:=omega) [gd_in,gd_and,wr_i64,rx,ry,u2,hltj,hltj',m1,m2,wj,-Int.natCast_add]
   exact k
  ·have k:=no fun h=>e (by have:=congrArg (fun l=>l[j]?) h; simp only [hp,hv] at this; exact Option.some.inj this)
   have e' : (!decide (p.1 = q.1) || !decide (p.2 = q.2)) = true:=by
    by_cases u : p.1 = q.1
    ·by_cases w : p.2 = q.2
     ·exact absurd (Prod.ext u w) e
     ·simp [w]
    ·simp [u]
   simp (maxSteps:=2000000) (disch:=omega) [gd_in,gd_and,wr_i64,rx,ry,u2,hltj,hltj',m1,m2,e',k,-Int.natCast_add]
theorem hoodS_s {z y : I} {c d : List (Int × Int)} (hz : IsSl z (cells2 c)) (hy : IsSl y (cells2 d)) (hc : c.length ≤ 9223372036854775807) (H : Hp) : Gives G 61 [.m z,.m y] H (.m (.b (decide (c = d)))) H:=by
 refine gives_pur rfl rfl rfl rfl rfl ?_
 simp (maxSteps:=2000000) (disch:=omega) [gd_in,gd_and,wr_i64,cl (eqP_s hz hy hc _)]
theorem eqI_s {z y : I} {c d : List Int} (hz : IsSl z (celI c)) (hy : IsSl y (celI d)) (hc : c.length ≤ 9223372036854775807) (H : Hp) : Gives G 64 [.m z,.m y] H (.m (.b (decide (c = d)))) H:=by
 have rx:=hz.rules
 have ry:=hy.rules
 simp only [celI_len] at rx ry
 refine gives_pur rfl rfl rfl rfl rfl ?_
 generalize hE : decide (c = d) = E
 have no : c ≠ d → E = false:=fun h=>by rw [← hE]; exact decide_eq_false h
 by_cases u2 : c.length = d.length
 case neg =>
  have k:=no fun e=>u2 (by rw [e])
  have u2' : ¬ (c.length : Int) = d.length:=by omega
  simp (maxSteps:=2000000) (disch:=omega) [gd_in,gd_and,wr_i64,rx,ry,u2,u2',k]
 simp (maxSteps:=2000000) (disch:=omega) [gd_in,gd_and,wr_i64,rx,ry,u2]
 refine (?key : ∀ (j : Nat) (B : List (Nat × List V)),j ≤ d.length → c.take j = d.take j → Run G c64_B0 (S64_0 (.m z) (.m y) (.m (.i .i64 (d.length : Int))) (.m (.i .i64 (j : Int))) B []) _) 0 _ (Nat.zero_le _) rfl
 refine indM (fun j : Nat=>d.length - j) fun j ih B hj hX=>?_
 unfold c64_B0
 cases hv : d[j]? with
 | none =>
  have : j = d.length:=by have:=List.getElem?_eq_none_iff.1 hv; omega
  subst this
  rw [List.take_length,← u2,List.take_length] at hX
  have k : E = true:=by rw [← hE]; exact decide_eq_true hX
  simp (maxSteps:=2000000) (disch:=omega) [gd_in,gd_and,wr_i64,rx,ry,u2,k]
 | some w =>
  have hltj:=(List.getElem?_eq_some_iff.1 hv).1
  have hltj' : (j : Int) < d.length:=by omega
  obtain ⟨v,hp2⟩ : ∃ v,c[j]? = some v:=⟨c[j],List.getElem?_eq_getElem (by omega)⟩
  have m1:=celI_nth hp2
  have m2:=celI_nth hv
  have wj : wr .i64 ((j : Int) + 1) = ((j + 1 : Nat) : Int):=wr_i64 (by omega) (by omega)
  by_cases e : v = w
  ·have k:=ih (j + 1) (by omega) B (by omega) (take_ext hX hp2 hv e)
   subst e
   simp (maxSteps:=2000000) (disch:=omega) [gd_in,gd_and,wr_i64,rx,ry,u2,hltj,hltj',m1,m2,wj,-Int.natCast_add]
   exact k
  ·have k:=no fun h=>e (by have:=congrArg (fun l=>l[j]?) h; simp only [hp2,hv] at this; exact Option.some.inj this)
   simp (maxSteps:=2000000) (disch:=omega) [gd_in,gd_and,wr_i64,rx,ry,u2,hltj,hltj',m1,m2,e,k,-Int.natCast_add]
theorem sameN_s {zx zy : I} {x y : Int × List Int} (hx2 : IsSl zx (celI x.2)) (hy2 : IsSl zy (celI y.2)) (hc : x.2.length ≤ 9223372036854775807) (H : Hp) : Gives G 63 [.m (.ag [.i .i64 x.1,zx]),.m (.ag [.i .i64 y.1,zy])] H (.m (.b (decide (x = y)))) H:=by
 refine gives_pur rfl rfl rfl rfl rfl ?_
 have g:=fun H=>eqI_s hx2 hy2 hc H
 by_cases u1 : x.1 = y.1
 ·have e : decide (x.2 = y.2) = decide (x = y):=by
   rw [Bool.eq_iff_iff,decide_eq_true_eq,decide_eq_true_eq]
   exact ⟨fun h=>Prod.ext u1 h,fun h=>by rw [h]⟩
  rw [e] at g
  simp (maxSteps:=2000000) (disch:=omega) [gd_in,gd_and,wr_i64,gcall_cx,isSl_1 hx2,isSl_1 hy2,slC hx2,slC hy2,u1,cl (g _)]
 ·have e : decide (x = y) = false:=decide_eq_false fun h=>u1 (by rw [h])
  simp (maxSteps:=2000000) (disch:=omega) [gd_in,gd_and,wr_i64,gcall_cx,isSl_1 hx2,isSl_1 hy2,slC hx2,slC hy2,u1,e]
set_option maxHeartbeats 2000000 in
theorem eqN_s {a b : TreeC} {h n h' n' : I} {es es' : List (List I)} (hA : TreeV a h n es) (hB : TreeV b h' n' es') (H : Hp) : Gives G 62 [.m n,.m n',.m (.fn 63 [])] H (.m (.b (decide (a.nodes = b.nodes)))) H:=by
 have r3:=hA.nd.rules
 have r4:=hB.nd.rules
 have hla:=treeV_len hA
 have hlb:=treeV_len hB
 have b3:=hA.nl
 have b4:=hB.nl
 refine gives_pur rfl rfl rfl rfl rfl ?_
 generalize hE : decide (a.nodes = b.nodes) = E
 have no : a.nodes ≠ b.nodes → E = false:=fun h=>by rw [← hE]; exact decide_eq_false h
 by_cases e3 : es.length = es'.length
 case neg =>
  have k:=no fun h=>e3 (by rw [← hla,← hlb,h])
  have e3' : ¬ (es.length : Int) = es'.length:=by omega
  simp (maxSteps:=2000000) (disch:=omega) [gd_in,gd_and,wr_i64,r3,r4,e3,e3',k]
 simp (maxSteps:=2000000) (disch:=omega) [gd_in,gd_and,wr_i64,r3,r4,e3]
 refine (?key : ∀ (i : Nat) (B : List (Nat × List V)),i ≤ es'.length → a.nodes.take i = b.nodes.take i →
  Run G c62_B0 (S62_0 (.m n') (.m (.fn 63 [])) (.m n) (.m (.i .i64 (es'.length : Int))) (.m (.i .i64 (i : Int))) B []) _) 0 _ (Nat.zero_le _) rfl
 refine indM (fun i : Nat=>es'.length - i) fun i ih B hi hN=>?_
 unfold c62_B0
 cases hx : b.nodes[i]? with
 | none =>
  have : i = es'.length:=by have:=List.getElem?_eq_none_iff.1 hx; omega
  subst this
  rw [List.take_of_length_le (by omega),List.take_of_length_le (by omega)] at hN
  have k : E = true:=by rw [← hE]; exact decide_eq_true hN
  simp (maxSteps:=2000000) (disch:=omega) [gd_in,gd_and,wr_i64,r3,r4,e3,k]
 | some y =>
  have hlt:=(List.getElem?_eq_some_iff.1 hx).1
  rw [hlb] at hlt
  have hlt' : (i : Int) < es'.length:=by omega
  obtain ⟨x,hp⟩ : ∃ x,a.nodes[i]? = some x:=⟨a.nodes[i],List.getElem?_eq_getElem (by omega)⟩
  obtain ⟨zx,x1,x2,x3,_⟩:=treeV_at hA hp
  obtain ⟨zy,y1,y2,y3,_⟩:=treeV_at hB hx
  have wi : wr .i64 ((i : Int) + 1) = ((i + 1 : Nat) : Int):=wr_i64 (by omega) (by omega)
  have g:=fun H=>sameN_s x2 y2 (by omega) H
  by_cases e : x = y
  ·rw [decide_eq_true e] at g
   have k:=fun B=>ih (i + 1) (by omega) B (by omega) (take_ext hN hp hx e)
   simp (maxSteps:=2000000) (disch:=omega) [gd_in,gd_and,wr_i64,r3,r4,e3,hlt,hlt',x1,y1,isSl_1 x2,isSl_1 y2,slC x2,slC y2,cl (g _),wi,-Int.natCast_add]
   exact k _
  ·rw [decide_eq_false e] at g
   have k:=no fun h=>e (by have:=congrArg (fun l=>l[i]?) h; simp only [hp,hx] at this; exact Option.some.inj this)
   simp (maxSteps:=2000000) (disch:=omega) [gd_in,gd_and,wr_i64,r3,r4,e3,hlt,hlt',x1,y1,isSl_1 x2,isSl_1 y2,slC x2,slC y2,cl (g _),k,-Int.natCast_add]
theorem same_s {a b : TreeC} {h n h' n' : I} {es es' : List (List I)} (hA : TreeV a h n es) (hB : TreeV b h' n' es') (H : Hp) : Gives G 36 [.m (.ag [.i .i64 a.states,h,n]),.m (.ag [.i .i64 b.states,h',n'])] H (.m (.b (decide (a.states = b.states ∧ a.hood = b.hood ∧ a.nodes = b.nodes)))) H:=by
 refine gives_pur rfl rfl rfl rfl rfl ?_
 have g1:=fun H=>hoodS_s hA.hd hB.hd hA.hl H
 have g2:=fun H=>eqN_s hA hB H
 by_cases e1 : a.states = b.states
 ·by_cases e2 : a.hood = b.hood
  ·rw [decide_eq_true e2] at g1
   simp (maxSteps:=2000000) (disch:=omega) [gd_in,gd_and,wr_i64,gcall_cx,e1,cl (g1 _),cl (g2 _),e2]
  ·rw [decide_eq_false e2] at g1
   simp (maxSteps:=2000000) (disch:=omega) [gd_in,gd_and,wr_i64,gcall_cx,e1,cl (g1 _),e2]
 ·simp (maxSteps:=2000000) (disch:=omega) [gd_in,gd_and,wr_i64,gcall_cx,e1]
end Go.Mx.Tryz
set_option linter.unusedSimpArgs false
set_option linter.unusedVariables false
set_option linter.unusedSectionVars false
namespace Go.Mx.Tryz

def allIx (f : Nat → (Int × List Int) → Bool) : Nat → List (Int × List Int) → Bool
 | _,[]=>true
 | i,x :: r=>f i x && allIx f (i + 1) r
theorem allIx_and (f g : Nat → (Int × List Int) → Bool) : ∀ (l : List (Int × List Int)) (i : Nat),allIx (fun j x=>f j x && g j x) i l = (allIx f i l && allIx g i l)
 | [],_=>rfl
 | x :: r,i=>by
  simp only [allIx,allIx_and f g r (i + 1)]
  cases f i x <;> cases g i x <;> cases allIx f (i + 1) r <;> rfl
theorem nodesOk_ix (t : TreeC) : ∀ (l : List (Int × List Int)) (i : Nat),nodesOk t i l = allIx (nodeOk t) i l
 | [],_=>rfl
 | x :: r,i=>by
  show (nodeOk t i x && nodesOk t (i + 1) r) = _
  rw [nodesOk_ix t r (i + 1)]
  rfl
def levOk (t : TreeC) : Nat → (Int × List Int) → Bool:=fun _ n=>decide (1 ≤ n.1 ∧ n.1 ≤ t.hood.length)
def lenOk (t : TreeC) : Nat → (Int × List Int) → Bool:=fun _ n=>decide ((n.2.length : Int) = t.states)
def kidOk (t : TreeC) : Nat → (Int × List Int) → Bool:=fun i n=>n.2.all (elOk t i n.1)
theorem nodesOk_parts (t : TreeC) (l : List (Int × List Int)) (i : Nat) : nodesOk t i l = (allIx (levOk t) i l && (allIx (lenOk t) i l && allIx (kidOk t) i l)):=by
 rw [nodesOk_ix,← allIx_and,← allIx_and]
 have : nodeOk t = fun j x=>levOk t j x && (lenOk t j x && kidOk t j x):=by
  funext j x
  unfold nodeOk levOk lenOk kidOk
  rw [Bool.eq_iff_iff]
  simp only [Bool.and_eq_true,decide_eq_true_eq]
  constructor
  ·rintro ⟨⟨a,b,c⟩,d⟩
   exact ⟨⟨a,b⟩,c,d⟩
  ·rintro ⟨⟨a,b⟩,c,d⟩
   exact ⟨⟨a,b,c⟩,d⟩
 rw [this]
def rule7 (t : TreeC) : Int :=
 if ¬ (2 ≤ t.states ∧ t.states ≤ 8) then 1
 else if hoodOk t.hood = false then 2
 else if ¬ (1 ≤ t.nodes.length ∧ t.nodes.length ≤ 4096) then 3
 else if allIx (levOk t) 0 t.nodes = false then 4
 else if allIx (lenOk t) 0 t.nodes = false then 5
 else if allIx (kidOk t) 0 t.nodes = false then 6
 else if ¬ levAt t.nodes (t.nodes.length - 1) = t.hood.length then 7
 else 0
theorem rule7_0 (t : TreeC) : rule7 t = 0 ↔ treeOk t = true:=by
 have e : treeOk t = (decide (2 ≤ t.states ∧ t.states ≤ 8) && (hoodOk t.hood && (decide (1 ≤ t.nodes.length ∧ t.nodes.length ≤ 4096) && (decide (levAt t.nodes (t.nodes.length - 1) = t.hood.length) && nodesOk t 0 t.nodes)))):=rfl
 rw [e,nodesOk_parts]
 unfold rule7
 by_cases h1 : 2 ≤ t.states ∧ t.states ≤ 8
 ·rw [if_neg (fun h=>h h1),decide_eq_true h1]
  cases h2 : hoodOk t.hood with
  | false=>simp
  | true =>
   by_cases h3 : 1 ≤ t.nodes.length ∧ t.nodes.length ≤ 4096
   ·rw [if_neg (by simp),if_neg (fun h=>h h3),decide_eq_true h3]
    cases allIx (levOk t) 0 t.nodes <;> cases allIx (lenOk t) 0 t.nodes <;> cases allIx (kidOk t) 0 t.nodes <;> simp
   ·rw [if_neg (by simp),if_pos h3,decide_eq_false h3]
    simp
 ·rw [if_pos h1,decide_eq_false h1]
  simp
end Go.Mx.Tryz
