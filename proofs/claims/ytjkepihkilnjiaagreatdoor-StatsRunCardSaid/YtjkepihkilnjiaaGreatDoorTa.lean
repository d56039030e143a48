/- Rules: neighbourhoods, trees, values, generations: plain facts. -/
import Derived.Test.YtjkepihkilnjiaaGreatDoorBx
import Derived.Test.YtjkepihkilnjiaaGreatDoorWb
set_option linter.unusedSimpArgs false
set_option linter.unusedVariables false
set_option linter.unusedSectionVars false
set_option maxRecDepth 100000
namespace Go.Mx.Tryz
open Go.Lib

structure TreeC where
 states : Int
 hood : List (Int × Int)
 nodes : List (Int × List Int)
def lessP (a b : Int × Int) : Bool := decide (a.2 < b.2 ∨ (a.2 = b.2 ∧ a.1 < b.1))
def offOk (p : Int × Int) : Bool := decide ((-2 ≤ p.1 ∧ p.1 ≤ 2) ∧ (-2 ≤ p.2 ∧ p.2 ≤ 2))
def chnH : Option (Int × Int) → List (Int × Int) → Bool
 | _, [] => true
 | none, p :: r => offOk p && chnH (some p) r
 | some a, p :: r => offOk p && lessP a p && chnH (some p) r
def hoodOk (l : List (Int × Int)) : Bool := decide (1 ≤ l.length ∧ l.length ≤ 25) && chnH none l
theorem chnH_mem : ∀ (l : List (Int × Int)) (a : Option (Int × Int)), chnH a l = true → ∀ p, p ∈ l → offOk p = true
 | [], _, _, p, hp => by cases hp
 | q :: r, a, h, p, hp => by
  have h' : offOk q = true ∧ chnH (some q) r = true := by
   cases a with
   | none => exact (Bool.and_eq_true _ _).mp h
   | some b =>
    have h : (offOk q && lessP b q && chnH (some q) r) = true := h
    rw [Bool.and_eq_true, Bool.and_eq_true] at h
    exact ⟨h.1.1, h.2⟩
  rcases List.mem_cons.1 hp with rfl | hp
  ·exact h'.1
  ·exact chnH_mem r _ h'.2 p hp
def levAt (nodes : List (Int × List Int)) (k : Int) : Int := match nodes[k.toNat]? with
 | some n => n.1
 | none => 0
def elOk (t : TreeC) (i : Nat) (lev k : Int) : Bool := decide (¬ k < 0 ∧ ¬ (lev = 1 ∧ t.states ≤ k) ∧ ¬ (1 < lev ∧ ((i : Int) ≤ k ∨ ¬ levAt t.nodes k = lev - 1)))
def nodeOk (t : TreeC) (i : Nat) (n : Int × List Int) : Bool := decide (1 ≤ n.1 ∧ n.1 ≤ t.hood.length ∧ (n.2.length : Int) = t.states) && n.2.all (elOk t i n.1)
def nodesOk (t : TreeC) : Nat → List (Int × List Int) → Bool
 | _, [] => true
 | i, n :: r => nodeOk t i n && nodesOk t (i + 1) r
def treeOk (t : TreeC) : Bool := decide (2 ≤ t.states ∧ t.states ≤ 8) && (hoodOk t.hood && (decide (1 ≤ t.nodes.length ∧ t.nodes.length ≤ 4096) && (decide (levAt t.nodes (t.nodes.length - 1) = t.hood.length) && nodesOk t 0 t.nodes)))
theorem nodesOk_at (t : TreeC) : ∀ (l : List (Int × List Int)) (i : Nat), nodesOk t i l = true → ∀ (j : Nat) n, l[j]? = some n → nodeOk t (i + j) n = true
 | [], _, _, j, n, h => by simp at h
 | m :: r, i, h, j, n, hn => by
  have h : (nodeOk t i m && nodesOk t (i + 1) r) = true := h
  rw [Bool.and_eq_true] at h
  cases j with
  | zero => simp at hn; subst hn; exact h.1
  | succ j =>
   have := nodesOk_at t r (i + 1) h.2 j n (by simpa using hn)
   rw [show i + (j + 1) = i + 1 + j from by omega]
   exact this
structure TreeR (t : TreeC) : Prop where
 s2 : 2 ≤ t.states
 s8 : t.states ≤ 8
 hood : hoodOk t.hood = true
 n1 : 1 ≤ t.nodes.length
 n2 : t.nodes.length ≤ 4096
 root : levAt t.nodes (t.nodes.length - 1) = t.hood.length
 node : ∀ (j : Nat) n, t.nodes[j]? = some n → nodeOk t j n = true
theorem treeOk_r {t : TreeC} (h : treeOk t = true) : TreeR t := by
 unfold treeOk at h
 simp only [Bool.and_eq_true, decide_eq_true_eq] at h
 obtain ⟨⟨a, b⟩, c, ⟨d, e⟩, f, g⟩ := h
 exact ⟨a, b, c, d, e, f, fun j n hn => by have := nodesOk_at t _ 0 g j n hn; rwa [Nat.zero_add] at this⟩
theorem hoodOk_len {l : List (Int × Int)} (h : hoodOk l = true) : 1 ≤ l.length ∧ l.length ≤ 25 := by
 unfold hoodOk at h
 simp only [Bool.and_eq_true, decide_eq_true_eq] at h
 exact h.1
theorem hoodOk_mem {l : List (Int × Int)} (h : hoodOk l = true) : ∀ p, p ∈ l → (-2 ≤ p.1 ∧ p.1 ≤ 2) ∧ (-2 ≤ p.2 ∧ p.2 ≤ 2) := fun p hp => by
 unfold hoodOk at h
 rw [Bool.and_eq_true] at h
 have := chnH_mem _ _ h.2 p hp
 unfold offOk at this
 exact of_decide_eq_true this
def nxtAt (nodes : List (Int × List Int)) (k s : Int) : Int := match nodes[k.toNat]? with
 | some n => (n.2[s.toNat]?).getD 0
 | none => 0
def valF (nodes : List (Int × List Int)) : Int → List Int → Int
 | k, [] => k
 | k, s :: r => valF nodes (nxtAt nodes k s) r
theorem valF_snoc (nodes : List (Int × List Int)) : ∀ (l : List Int) (k s : Int), valF nodes k (l ++ [s]) = nxtAt nodes (valF nodes k l) s
 | [], _, _ => rfl
 | x :: r, k, s => valF_snoc nodes r (nxtAt nodes k x) s
def valT (t : TreeC) (ins : List Int) : Int := valF t.nodes (t.nodes.length - 1) ins
theorem valT_snoc (t : TreeC) (l : List Int) (s : Int) : valT t (l ++ [s]) = nxtAt t.nodes (valT t l) s := valF_snoc _ _ _ _
def AtNode (t : TreeC) (lev : Int) (k : Int) : Prop := ∃ (j : Nat) (n : Int × List Int), k = j ∧ t.nodes[j]? = some n ∧ n.1 = lev ∧ (n.2.length : Int) = t.states
theorem node_step {t : TreeC} (h : TreeR t) {lev k s : Int} (ha : AtNode t lev k) (hs : 0 ≤ s ∧ s < t.states) : (lev = 1 → 0 ≤ nxtAt t.nodes k s ∧ nxtAt t.nodes k s < t.states) ∧ (1 < lev → AtNode t (lev - 1) (nxtAt t.nodes k s)) ∧ 1 ≤ lev := by
 obtain ⟨j, n, rfl, hn, hl, hlen⟩ := ha
 have hok := h.node j n hn
 unfold nodeOk at hok
 simp only [Bool.and_eq_true, decide_eq_true_eq, List.all_eq_true] at hok
 obtain ⟨⟨a1, a2, a3⟩, a4⟩ := hok
 have hsl : s.toNat < n.2.length := by omega
 have e : nxtAt t.nodes j s = n.2[s.toNat] := by
  unfold nxtAt
  rw [show ((j : Int)).toNat = j from rfl, hn]
  dsimp only
  rw [List.getElem?_eq_getElem hsl]
  rfl
 have hel := a4 (n.2[s.toNat]) (List.getElem_mem hsl)
 rw [← e] at hel
 unfold elOk at hel
 have hel := of_decide_eq_true hel
 refine ⟨fun h1 => ?_, fun h1 => ?_, by omega⟩
 ·have := hel.2.1; omega
 ·have h2 := hel.2.2
  have h3 : ¬ (j : Int) ≤ nxtAt t.nodes j s := fun hh => h2 ⟨by omega, .inl hh⟩
  have h4 : levAt t.nodes (nxtAt t.nodes j s) = n.1 - 1 := Classical.byContradiction fun hh => h2 ⟨by omega, .inr hh⟩
  generalize nxtAt t.nodes j s = k' at *
  have h0 : ¬ k' < 0 := hel.1
  obtain ⟨i, rfl⟩ := Int.eq_ofNat_of_zero_le (show 0 ≤ k' by omega)
  have hjl := (List.getElem?_eq_some_iff.1 hn).1
  have hil : i < t.nodes.length := by omega
  refine ⟨i, t.nodes[i], rfl, List.getElem?_eq_getElem hil, ?_, ?_⟩
  ·unfold levAt at h4
   rw [show ((i : Int)).toNat = i from rfl, List.getElem?_eq_getElem hil] at h4
   dsimp only at h4
   omega
  ·have := h.node i _ (List.getElem?_eq_getElem hil)
   unfold nodeOk at this
   simp only [Bool.and_eq_true, decide_eq_true_eq] at this
   exact this.1.2.2
theorem val_at {t : TreeC} (h : TreeR t) : ∀ (m : Nat) (ins : List Int), ins.length = m → m < t.hood.length → (∀ s, s ∈ ins → 0 ≤ s ∧ s < t.states) → AtNode t (t.hood.length - m) (valT t ins)
 | 0, ins, hl, hm, hs => by
  have : ins = [] := List.eq_nil_of_length_eq_zero hl
  subst this
  have h1 := h.n1
  have hlt : t.nodes.length - 1 < t.nodes.length := by omega
  refine ⟨t.nodes.length - 1, t.nodes[t.nodes.length - 1], ?_, List.getElem?_eq_getElem hlt, ?_, ?_⟩
  ·show ((t.nodes.length : Int) - 1) = _
   omega
  ·have := h.root
   unfold levAt at this
   rw [show ((t.nodes.length : Int) - 1).toNat = t.nodes.length - 1 from by omega, List.getElem?_eq_getElem hlt] at this
   dsimp only at this
   rw [this]
   simp
  ·have := h.node _ _ (List.getElem?_eq_getElem hlt)
   unfold nodeOk at this
   simp only [Bool.and_eq_true, decide_eq_true_eq] at this
   exact this.1.2.2
 | m + 1, ins, hl, hm, hs => by
  obtain ⟨q, c, rfl⟩ : ∃ q c, ins = q ++ [c] := ⟨ins.dropLast, ins.getLast (by intro e; rw [e] at hl; simp at hl), (List.dropLast_concat_getLast _).symm⟩
  have ih := val_at h m q (by simpa using hl) (by omega) fun s hs' => hs s (by simp [hs'])
  rw [valT_snoc]
  have := (node_step h ih (hs c (by simp))).2.1 (by omega)
  rw [show ((t.hood.length : Int) - ((m + 1 : Nat) : Int)) = t.hood.length - m - 1 from by omega]
  exact this
theorem val_end {t : TreeC} (h : TreeR t) {ins : List Int} (hl : ins.length = t.hood.length) (hs : ∀ s, s ∈ ins → 0 ≤ s ∧ s < t.states) : 0 ≤ valT t ins ∧ valT t ins < t.states := by
 have h1 := (hoodOk_len h.hood).1
 obtain ⟨q, c, rfl⟩ : ∃ q c, ins = q ++ [c] := ⟨ins.dropLast, ins.getLast (by intro e; rw [e] at hl; simp at hl; omega), (List.dropLast_concat_getLast _).symm⟩
 have hlq : q.length + 1 = t.hood.length := by simpa using hl
 have ih := val_at h q.length q rfl (by omega) fun s hs' => hs s (by simp [hs'])
 rw [valT_snoc]
 exact (node_step h ih (hs c (by simp))).1 (by omega)
def quietT (t : TreeC) : Bool := treeOk t && decide (valT t (List.replicate t.hood.length 0) = 0)
def nbrs (t : TreeC) (p : List Ce) (x y : Int) : List Int := t.hood.map fun o => getF p (x + o.1) (y + o.2)
def nextF (t : TreeC) (p : List Ce) (x y : Int) : Int := valT t (nbrs t p x y)
def topOk (t : TreeC) (p : List Ce) : Prop := ∀ c, c ∈ p → 0 ≤ c.s ∧ c.s < t.states
theorem getF_rng {t : TreeC} (h : TreeR t) : ∀ {p : List Ce}, topOk t p → ∀ x y, 0 ≤ getF p x y ∧ getF p x y < t.states
 | [], _, x, y => by have := h.s2; show 0 ≤ (0 : Int) ∧ (0 : Int) < t.states; omega
 | c :: r, hp, x, y => by
  have e : getF (c :: r) x y = if c.x = x ∧ c.y = y then c.s else getF r x y := rfl
  rw [e]
  split
  ·exact hp c (List.mem_cons_self ..)
  ·exact getF_rng h (fun d hd => hp d (List.mem_cons_of_mem _ hd)) x y
theorem nbrs_rng {t : TreeC} (h : TreeR t) {p : List Ce} (hp : topOk t p) {x y : Int} : ∀ s, s ∈ nbrs t p x y → 0 ≤ s ∧ s < t.states := fun s hs => by
 obtain ⟨o, _, rfl⟩ := List.mem_map.1 hs
 exact getF_rng h hp _ _
theorem nbrs_len (t : TreeC) (p : List Ce) (x y : Int) : (nbrs t p x y).length = t.hood.length := by unfold nbrs; simp
theorem next_rng {t : TreeC} (h : TreeR t) {p : List Ce} (hp : topOk t p) (x y : Int) : 0 ≤ nextF t p x y ∧ nextF t p x y < t.states := val_end h (nbrs_len t p x y) (nbrs_rng h hp)
theorem next_zero {t : TreeC} (hq : quietT t = true) {p : List Ce} {x y : Int} (h : ∀ o, o ∈ t.hood → getF p (x + o.1) (y + o.2) = 0) : nextF t p x y = 0 := by
 unfold quietT at hq
 rw [Bool.and_eq_true, decide_eq_true_eq] at hq
 have e : nbrs t p x y = List.replicate t.hood.length 0 := by
  unfold nbrs
  rw [List.map_congr_left h, List.map_const']
 unfold nextF
 rw [e]
 exact hq.2
theorem quiet_r {t : TreeC} (hq : quietT t = true) : TreeR t := by
 unfold quietT at hq
 rw [Bool.and_eq_true] at hq
 exact treeOk_r hq.1
theorem getF_mem {p : List Ce} {x y : Int} (h : ¬ getF p x y = 0) : ∃ c, c ∈ p ∧ c.x = x ∧ c.y = y ∧ c.s = getF p x y := by
 induction p with
 | nil => exact absurd rfl h
 | cons c r ih =>
  have e : getF (c :: r) x y = if c.x = x ∧ c.y = y then c.s else getF r x y := rfl
  rw [e] at h ⊢
  by_cases hc : c.x = x ∧ c.y = y
  ·rw [if_pos hc]
   exact ⟨c, List.mem_cons_self .., hc.1, hc.2, rfl⟩
  ·rw [if_neg hc] at h ⊢
   obtain ⟨d, h1, h2⟩ := ih h
   exact ⟨d, List.mem_cons_of_mem _ h1, h2⟩
theorem next_nbr {t : TreeC} (hq : quietT t = true) {p : List Ce} {x y : Int} (h : ¬ nextF t p x y = 0) : ∃ c o, c ∈ p ∧ o ∈ t.hood ∧ x = c.x - o.1 ∧ y = c.y - o.2 := by
 have : ∃ o, o ∈ t.hood ∧ ¬ getF p (x + o.1) (y + o.2) = 0 := Classical.byContradiction fun hn => h (next_zero hq fun o ho => Classical.byContradiction fun hh => hn ⟨o, ho, hh⟩)
 obtain ⟨o, ho, hg⟩ := this
 obtain ⟨c, hc, h1, h2, _⟩ := getF_mem hg
 exact ⟨c, o, hc, ho, by omega, by omega⟩
def posM (p : List Ce) : List ((Int × Int) × Int) := p.map fun c => ((c.x, c.y), c.s)
theorem posM_keys (p : List Ce) : (posM p).map Prod.fst = p.map fun c => (c.x, c.y) := by simp [posM]
theorem posM_nodup {p : List Ce} (h : p.Pairwise fun a b => less a b = true) : ((posM p).map Prod.fst).Nodup := by
 rw [posM_keys]
 refine List.Pairwise.map _ (fun a b hab => ?_) h
 unfold less at hab
 grind
theorem mfind_posM (p : List Ce) (x y : Int) : (mfind (posM p) (x, y)).getD 0 = getF p x y := by
 induction p with
 | nil => rfl
 | cons c r ih =>
  by_cases h : c.x = x ∧ c.y = y
  ·simp [posM, mfind, getF, h]
  ·have : ¬ (c.x, c.y) = (x, y) := by simpa using h
   simp only [posM, List.map_cons, mfind, if_neg this, getF, if_neg h]
   exact ih
theorem mfind_isSome {p : List Ce} (hg : ∀ d, d ∈ p → good d = true) (x y : Int) : (mfind (posM p) (x, y)).isSome = !decide (getF p x y = 0) := by
 rw [← mfind_posM]
 cases h : mfind (posM p) (x, y) with
 | none => simp
 | some s =>
  obtain ⟨d, hd, he⟩ := List.mem_map.1 (mfind_some_mem h)
  have := hg d hd
  unfold good at this
  simp only [Bool.and_eq_true, decide_eq_true_eq] at this
  have hs : d.s = s := by injection he
  have : ¬ s = 0 := by omega
  simp [this]
theorem mset_posM {q r : List Ce} {c : Ce} (h : (q ++ c :: r).Pairwise fun a b => less a b = true) : mset (posM q) (c.x, c.y) c.s = posM (q ++ [c]) := by
 rw [mset_new]
 ·simp [posM]
 ·rw [posM_keys]
  intro hm
  obtain ⟨d, hd, he⟩ := List.mem_map.1 hm
  have := (List.pairwise_append.1 h).2.2 d hd c (by simp)
  unfold less at this
  grind
theorem pw_mem : ∀ {p q : List Ce}, p.Pairwise (fun a b => less a b = true) → q.Pairwise (fun a b => less a b = true) → (∀ c, c ∈ p ↔ c ∈ q) → p = q
 | [], [], _, _, _ => rfl
 | [], d :: s, _, _, h => by have := (h d).2 (List.mem_cons_self ..); cases this
 | c :: r, [], _, _, h => by have := (h c).1 (List.mem_cons_self ..); cases this
 | c :: r, d :: s, hp, hq, h => by
  obtain ⟨p1, p2⟩ := List.pairwise_cons.1 hp
  obtain ⟨q1, q2⟩ := List.pairwise_cons.1 hq
  have irr : ∀ a : Ce, ¬ less a a = true := fun a ha => by unfold less at ha; simp at ha
  have e : c = d := by
   rcases List.mem_cons.1 ((h c).1 (List.mem_cons_self ..)) with e | h1
   ·exact e
   ·rcases List.mem_cons.1 ((h d).2 (List.mem_cons_self ..)) with e | h2
    ·exact e.symm
    ·exact absurd (less_trans (p1 d h2) (q1 c h1)) (irr c)
  subst e
  congr 1
  refine pw_mem p2 q2 fun x => ⟨fun hx => ?_, fun hx => ?_⟩
  ·rcases List.mem_cons.1 ((h x).1 (List.mem_cons_of_mem _ hx)) with rfl | h1
   ·exact absurd (p1 _ hx) (irr _)
   ·exact h1
  ·rcases List.mem_cons.1 ((h x).2 (List.mem_cons_of_mem _ hx)) with rfl | h1
   ·exact absurd (q1 _ hx) (irr _)
   ·exact h1
def StepR (t : TreeC) (p : List Ce) (res : List Ce × Int) : Prop :=
 (res = ([], 5) ∧ ∃ x y, ¬ nextF t p x y = 0 ∧ placed x y = false) ∨
 ((∀ x y, ¬ nextF t p x y = 0 → placed x y = true) ∧ ∃ q : List Ce, q.Pairwise (fun a b => less a b = true) ∧ (∀ c, c ∈ q ↔ c.s = nextF t p c.x c.y ∧ ¬ c.s = 0) ∧ res = if 5000 < q.length then ([], 6) else (q, 0))
theorem stepR_uniq {t : TreeC} {p : List Ce} {a b : List Ce × Int} (ha : StepR t p a) (hb : StepR t p b) : a = b := by
 rcases ha with ⟨rfl, x, y, h1, h2⟩ | ⟨h1, q, h2, h3, rfl⟩ <;> rcases hb with ⟨rfl, u, v, k1, k2⟩ | ⟨k1, r, k2, k3, rfl⟩
 ·rfl
 ·rw [k1 x y h1] at h2; cases h2
 ·rw [h1 u v k1] at k2; cases k2
 ·rw [pw_mem h2 k2 fun c => (h3 c).trans (k3 c).symm]
theorem stepR_ok {t : TreeC} (h : TreeR t) {p q : List Ce} (hp : topOk t p) (hs : StepR t p (q, 0)) : q.Pairwise (fun a b => less a b = true) ∧ (∀ c, c ∈ q → good c = true) ∧ q.length ≤ 5000 ∧ topOk t q := by
 rcases hs with ⟨e, _⟩ | ⟨h1, r, h2, h3, e⟩
 ·cases e
 ·split at e
  ·cases e
  ·rename_i hl
   cases e
   have hr := fun c (hc : c ∈ q) => next_rng h hp c.x c.y
   have s8 := h.s8
   refine ⟨h2, fun c hc => ?_, by omega, fun c hc => ?_⟩
   ·have k1 := (h3 c).1 hc
    have k2 := h1 c.x c.y (by rw [← k1.1]; exact k1.2)
    have k3 := hr c hc
    rw [← k1.1] at k3
    have k4 := k1.2
    unfold good
    rw [k2]
    simp only [Bool.true_and, Bool.and_eq_true, decide_eq_true_eq]
    omega
   ·have k1 := (h3 c).1 hc
    have k3 := hr c hc
    rw [← k1.1] at k3
    exact k3
end Go.Mx.Tryz
