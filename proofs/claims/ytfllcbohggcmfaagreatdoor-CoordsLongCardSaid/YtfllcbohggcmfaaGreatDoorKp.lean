/- Plain facts of patterns in order. -/
import Derived.Test.YtfllcbohggcmfaaGreatDoorFrn
set_option linter.unusedSimpArgs false
set_option linter.unusedVariables false
set_option linter.unusedSectionVars false
set_option maxRecDepth 100000
namespace Go.Mx.Tryz
open Go.Lib

def apart (a b : Ce) : Prop := ¬ (a.x = b.x ∧ a.y = b.y)
theorem chain_pw : ∀ (p : List Ce) (o : Option Ce), chain o p = true → p.Pairwise (fun a b => less a b = true) ∧ (∀ a, o = some a → ∀ d, d ∈ p → less a d = true) ∧ ∀ d, d ∈ p → good d = true
 | [], _, _ => ⟨.nil, fun _ _ d hd => by simp at hd, fun d hd => by simp at hd⟩
 | c :: r, o, h => by
  have h' : good c = true ∧ (∀ a, o = some a → less a c = true) ∧ chain (some c) r = true := by
   cases o with
   | none =>
    have : (good c && chain (some c) r) = true := h
    rw [Bool.and_eq_true] at this
    exact ⟨this.1, fun _ h => (by cases h), this.2⟩
   | some a =>
    have : (good c && less a c && chain (some c) r) = true := h
    simp only [Bool.and_eq_true] at this
    exact ⟨this.1.1, fun _ h => (by cases h; exact this.1.2), this.2⟩
  obtain ⟨g1, g2, g3⟩ := h'
  obtain ⟨i1, i2, i3⟩ := chain_pw r (some c) g3
  refine ⟨List.pairwise_cons.2 ⟨fun d hd => i2 c rfl d hd, i1⟩, fun a ha d hd => ?_, fun d hd => ?_⟩
  ·rcases List.mem_cons.1 hd with rfl | hd
   ·exact g2 a ha
   ·have h1 := g2 a ha
    have h2 := i2 c rfl d hd
    unfold less at *
    grind
  ·rcases List.mem_cons.1 hd with rfl | hd
   ·exact g1
   ·exact i3 d hd
theorem right_pw {p : List Ce} (h : right p = true) : p.Pairwise (fun a b => less a b = true) ∧ (∀ d, d ∈ p → good d = true) ∧ p.length ≤ 5000 := by
 unfold right at h
 simp only [Bool.and_eq_true, decide_eq_true_eq] at h
 have := chain_pw p none h.2
 exact ⟨this.1, this.2.2, h.1⟩
theorem bad_good : ∀ {p : List Ce}, (∀ c, c ∈ p → good c = true) → bad p = none
 | [], _ => rfl
 | c :: r, h => by
  have hc := h c (by simp)
  unfold good at hc
  simp only [Bool.and_eq_true, decide_eq_true_eq] at hc
  have e : badC c = none := by
   unfold badC
   rw [if_neg (by rw [hc.1.1]; simp), if_neg (by omega)]
  have e2 : bad (c :: r) = match badC c with | some e => some e | none => bad r := rfl
  rw [e2, e]
  exact bad_good fun d hd => h d (by simp [hd])
theorem tw_pw : ∀ {p : List Ce}, p.Pairwise (fun a b => less a b = true) → tw p = false
 | [], _ => rfl
 | [_], _ => rfl
 | a :: b :: r, h => by
  have e : tw (a :: b :: r) = (decide (a.x = b.x ∧ a.y = b.y) || tw (b :: r)) := rfl
  obtain ⟨h1, h2⟩ := List.pairwise_cons.1 h
  have := h1 b (by simp)
  rw [e, tw_pw h2, Bool.or_false]
  unfold less at this
  simp at this ⊢
  omega
theorem asc_eq {p q : List Ce} (hw : p.Pairwise (fun a b => less a b = true)) (hq : Asc q) (hpm : q.Perm p) : q = p := by
 have hqp : q.Pairwise (fun a b => less b a = false) := by
  rw [List.pairwise_iff_getElem]
  intro i j hi hj hij
  exact hq i j _ _ hij (List.getElem?_eq_getElem hi) (List.getElem?_eq_getElem hj)
 have hpp : p.Pairwise (fun a b => less b a = false) := hw.imp fun {a b} h => by
  unfold less at *
  simp at h ⊢
  omega
 refine hpm.eq_of_pairwise (fun a b ha hb h1 h2 => ?_) hqp hpp
 have ha' : a ∈ p := hpm.mem_iff.1 ha
 obtain ⟨i, hi, rfl⟩ := List.mem_iff_getElem.1 ha'
 obtain ⟨j, hj, rfl⟩ := List.mem_iff_getElem.1 hb
 rcases Nat.lt_trichotomy i j with h | h | h
 ·have := List.pairwise_iff_getElem.1 hw i j hi hj h
  rw [this] at h2; cases h2
 ·subst h; rfl
 ·have := List.pairwise_iff_getElem.1 hw j i hj hi h
  rw [this] at h1; cases h1
theorem apart_perm {p q : List Ce} (h : q.Perm p) (ha : p.Pairwise apart) : q.Pairwise apart := by
 refine (h.pairwise_iff (fun {a b} hab => ?_)).2 ha
 exact fun ⟨h1, h2⟩ => hab ⟨h1.symm, h2.symm⟩
theorem asc_pw {q : List Ce} (ha : Asc q) (hp : q.Pairwise apart) : q.Pairwise (fun a b => less a b = true) := by
 rw [List.pairwise_iff_getElem] at hp ⊢
 intro i j hi hj hij
 have h1 := ha i j _ _ hij (List.getElem?_eq_getElem hi) (List.getElem?_eq_getElem hj)
 have h2 := hp i j hi hj hij
 unfold less at *
 unfold apart at h2
 simp at *
 omega
theorem good_bnd {c : Ce} (h : good c = true) : placed c.x c.y = true ∧ 1 ≤ c.s ∧ c.s < 8 := by
 unfold good at h
 simp only [Bool.and_eq_true, decide_eq_true_eq] at h
 exact ⟨h.1.1, h.1.2, h.2⟩
theorem liv_good {p : List Ce} (h : ∀ c, c ∈ p → good c = true) : liv p = p := by
 unfold liv
 rw [List.filter_eq_self]
 intro c hc
 have := good_bnd (h c hc)
 exact decide_eq_true (by omega)
theorem right_of : ∀ {p : List Ce}, p.Pairwise (fun a b => less a b = true) → (∀ c, c ∈ p → good c = true) → p.length ≤ 5000 → right p = true := fun {p} h1 h2 h3 => by
 have key : ∀ (p : List Ce) (o : Option Ce), p.Pairwise (fun a b => less a b = true) → (∀ a, o = some a → ∀ d, d ∈ p → less a d = true) → (∀ c, c ∈ p → good c = true) → chain o p = true := by
  intro p
  induction p with
  | nil => intro o _ _ _; cases o <;> rfl
  | cons c r ih =>
   intro o h1 h2 h3
   obtain ⟨h4, h5⟩ := List.pairwise_cons.1 h1
   have i := ih (some c) h5 (fun a ha d hd => by cases ha; exact h4 d hd) (fun d hd => h3 d (List.mem_cons_of_mem _ hd))
   cases o with
   | none =>
    show (good c && chain (some c) r) = true
    rw [h3 c (List.mem_cons_self ..), i]
    rfl
   | some a =>
    show (good c && less a c && chain (some c) r) = true
    rw [h3 c (List.mem_cons_self ..), i, h2 a rfl c (List.mem_cons_self ..)]
    rfl
 unfold right
 rw [decide_eq_true h3, key p none h1 (fun a h => by cases h) h2]
 rfl
end Go.Mx.Tryz
