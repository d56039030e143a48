/- Steps: what the loops collect; plain facts. -/
import Derived.Test.YtjkepihkilnjiaaGreatDoorTa
import Derived.Test.YtjkepihkilnjiaaGreatDoorKp
set_option linter.unusedSimpArgs false
set_option linter.unusedVariables false
set_option linter.unusedSectionVars false
set_option maxRecDepth 100000
namespace Go.Mx.Tryz
open Go.Lib

structure StI (t : TreeC) (p : List Ce) (D : List (Int × Int)) (l : List Ce) : Prop where
 al : ∀ c, c ∈ l → (c.x, c.y) ∈ D ∧ c.s = nextF t p c.x c.y ∧ ¬ c.s = 0 ∧ placed c.x c.y = true
 cov : ∀ k, k ∈ D → ¬ nextF t p k.1 k.2 = 0 → ∃ c, c ∈ l ∧ c.x = k.1 ∧ c.y = k.2
 ap : l.Pairwise apart
theorem stI_nil (t : TreeC) (p : List Ce) : StI t p [] [] := ⟨by simp, by simp, .nil⟩
theorem stI_skip {t : TreeC} {p : List Ce} {D : List (Int × Int)} {l : List Ce} (h : StI t p D l) {k : Int × Int} (hk : nextF t p k.1 k.2 = 0) : StI t p (D ++ [k]) l :=
 ⟨fun c hc => by obtain ⟨a, b⟩ := h.al c hc; exact ⟨by simp [a], b⟩, fun j hj hn => by
  rcases List.mem_append.1 hj with hj | hj
  ·exact h.cov j hj hn
  ·rw [List.mem_singleton.1 hj] at hn
   exact absurd hk hn, h.ap⟩
theorem stI_add {t : TreeC} {p : List Ce} {D : List (Int × Int)} {l : List Ce} (h : StI t p D l) {x y : Int} (hD : (x, y) ∉ D) (hk : ¬ nextF t p x y = 0) (hp : placed x y = true) : StI t p (D ++ [(x, y)]) (l ++ [⟨x, y, nextF t p x y⟩]) := by
 refine ⟨fun c hc => ?_, fun j hj hn => ?_, ?_⟩
 ·rcases List.mem_append.1 hc with hc | hc
  ·obtain ⟨a, b⟩ := h.al c hc
   exact ⟨by simp [a], b⟩
  ·rw [List.mem_singleton.1 hc]
   exact ⟨by simp, rfl, hk, hp⟩
 ·rcases List.mem_append.1 hj with hj | hj
  ·obtain ⟨c, h1, h2⟩ := h.cov j hj hn
   exact ⟨c, by simp [h1], h2⟩
  ·rw [List.mem_singleton.1 hj]
   exact ⟨⟨x, y, nextF t p x y⟩, by simp, rfl, rfl⟩
 ·rw [List.pairwise_append]
  refine ⟨h.ap, by simp, fun a ha b hb => ?_⟩
  rw [List.mem_singleton.1 hb]
  intro ⟨h1, h2⟩
  have := (h.al a ha).1
  dsimp only at h1 h2
  rw [h1, h2] at this
  exact hD this
theorem stI_out {t : TreeC} {p : List Ce} {x y : Int} (hk : ¬ nextF t p x y = 0) (hp : placed x y = false) : StepR t p ([], 5) := .inl ⟨rfl, x, y, hk, hp⟩
theorem stI_end {t : TreeC} {p : List Ce} {D : List (Int × Int)} {l q : List Ce} (hq : quietT t = true) (h : StI t p D l) (hall : ∀ c o, c ∈ p → o ∈ t.hood → (c.x - o.1, c.y - o.2) ∈ D) (hp : q.Perm l) (hs : q.Pairwise (fun a b => less a b = true)) : StepR t p (if 5000 < q.length then ([], 6) else (q, 0)) := by
 have hD : ∀ x y, ¬ nextF t p x y = 0 → ∃ c, c ∈ l ∧ c.x = x ∧ c.y = y := fun x y hn => by
  obtain ⟨c, o, hc, ho, rfl, rfl⟩ := next_nbr hq hn
  exact h.cov _ (hall c o hc ho) hn
 refine .inr ⟨fun x y hn => ?_, q, hs, fun c => ⟨fun hc => ?_, fun hc => ?_⟩, rfl⟩
 ·obtain ⟨c, hc, rfl, rfl⟩ := hD x y hn
  exact (h.al c hc).2.2.2
 ·have := h.al c (hp.mem_iff.1 hc)
  exact ⟨this.2.1, this.2.2.1⟩
 ·obtain ⟨d, hd, e1, e2⟩ := hD c.x c.y (by rw [← hc.1]; exact hc.2)
  have h2 := (h.al d hd).2.1
  have : d = c := by
   obtain ⟨a1, a2, a3⟩ := d
   obtain ⟨b1, b2, b3⟩ := c
   dsimp only at e1 e2 h2 hc
   subst e1 e2
   congr 1
   rw [h2]
   exact hc.1.symm
  exact hp.mem_iff.2 (this ▸ hd)
theorem stI_good {t : TreeC} (hr : TreeR t) {p : List Ce} (ht : topOk t p) {D : List (Int × Int)} {l : List Ce} (h : StI t p D l) : ∀ c, c ∈ l → good c = true := fun c hc => by
 obtain ⟨_, h1, h2, h3⟩ := h.al c hc
 have h4 := next_rng hr ht c.x c.y
 rw [← h1] at h4
 have := hr.s8
 unfold good
 rw [h3]
 simp only [Bool.true_and, Bool.and_eq_true, decide_eq_true_eq]
 omega
theorem stI_from {t : TreeC} (hr : TreeR t) {p : List Ce} (ht : topOk t p) {D : List (Int × Int)} {l q : List Ce} (h : StI t p D l) (hq : q.Perm (liv l)) (ha : Asc q) : bad l = none ∧ q.Perm l ∧ q.Pairwise (fun a b => less a b = true) ∧ resP q = if 5000 < q.length then .tu [.m (.nl 4), .m (.i .i64 6)] else .tu [.m (zP q), .m (.i .i64 0)] := by
 have hg : ∀ c, c ∈ l → good c = true := fun c hc => by
  obtain ⟨_, h1, h2, h3⟩ := h.al c hc
  have h4 := next_rng hr ht c.x c.y
  rw [← h1] at h4
  have := hr.s8
  unfold good
  rw [h3]
  simp only [Bool.true_and, Bool.and_eq_true, decide_eq_true_eq]
  omega
 rw [liv_good hg] at hq
 have hw := asc_pw ha (apart_perm hq h.ap)
 refine ⟨bad_good hg, hq, hw, ?_⟩
 unfold resP
 rw [tw_pw hw, if_neg (by simp)]
inductive HisR (t : TreeC) (p : List Ce) : List (List Ce) → Prop
 | one : HisR t p [p]
 | snoc {ps : List (List Ce)} {a q : List Ce} : HisR t p (ps ++ [a]) → StepR t a (q, 0) → HisR t p (ps ++ [a] ++ [q])
def HisQ (t : TreeC) (p : List Ce) (n : Nat) (res : List (List Ce) × Int) : Prop :=
 (res.2 = 0 ∧ res.1.length = n + 1 ∧ HisR t p res.1) ∨ (∃ ps a, ps.length < n ∧ HisR t p (ps ++ [a]) ∧ StepR t a ([], res.2) ∧ ¬ res.2 = 0 ∧ res.1 = [])
theorem hisR_hd {t : TreeC} {p : List Ce} {l : List (List Ce)} (h : HisR t p l) : ∃ r, l = p :: r := by
 induction h with
 | one => exact ⟨[], rfl⟩
 | snoc _ _ ih =>
  obtain ⟨r, e⟩ := ih
  exact ⟨r ++ [_], by rw [e]; rfl⟩
theorem hisR_at {t : TreeC} {p : List Ce} {m : List (List Ce)} (hm : HisR t p m) : ∀ k b c, m[k]? = some b → m[k + 1]? = some c → StepR t b (c, 0) := by
 induction hm with
 | one => intro k b c _ h; simp at h
 | @snoc ps a q g1 g2 ih2 =>
  intro k b c hb hc
  by_cases hk : k + 1 < (ps ++ [a]).length
  ·rw [List.getElem?_append_left hk] at hc
   rw [List.getElem?_append_left (by omega)] at hb
   exact ih2 k b c hb hc
  ·have hk2 : k + 1 < (ps ++ [a] ++ [q]).length := (List.getElem?_eq_some_iff.1 hc).1
   have hk3 : k = ps.length := by simp at hk hk2; omega
   subst hk3
   simp at hb hc
   subst hb hc
   exact g2
theorem hisR_len {t : TreeC} {p : List Ce} : ∀ {l m : List (List Ce)}, HisR t p l → HisR t p m → l.length ≤ m.length → l = m.take l.length := by
 intro l m hl
 induction hl generalizing m with
 | one =>
  intro hm _
  obtain ⟨r, rfl⟩ := hisR_hd hm
  simp
 | @snoc ps a q h1 h2 ih =>
  intro hm hle
  have e1 := ih hm (by simp at hle ⊢; omega)
  have hlt : ps.length + 1 < m.length := by simp at hle; omega
  have hb : m[ps.length]? = some a := by
   have := congrArg (fun z => z[ps.length]?) e1
   simp at this
   rw [this]
  have hc := List.getElem?_eq_getElem hlt
  have h3 := hisR_at hm ps.length a _ hb hc
  have h4 := stepR_uniq h2 h3
  have h5 : q = m[ps.length + 1] := congrArg Prod.fst h4
  rw [h5]
  have e2 : (ps ++ [a] ++ [m[ps.length + 1]]).length = (ps ++ [a]).length + 1 := by simp
  rw [e2, take_succ_get (i := (ps ++ [a]).length) (c := m[ps.length + 1]) (by simp), ← e1]
theorem hisQ_uniq {t : TreeC} {p : List Ce} {n : Nat} {a b : List (List Ce) × Int} (ha : HisQ t p n a) (hb : HisQ t p n b) : a = b := by
 have mix : ∀ {l ps : List (List Ce)} {x : List Ce} {e : Int}, HisR t p l → ps.length + 1 < l.length → HisR t p (ps ++ [x]) → StepR t x ([], e) → e = 0 := fun {l ps x e} h1 h2 h3 h4 => by
  have e1 := hisR_len h3 h1 (by simp; omega)
  have hb : l[ps.length]? = some x := by
   have := congrArg (fun z => z[ps.length]?) e1
   simp at this
   rw [this]
  have h5 := hisR_at h1 ps.length x _ hb (List.getElem?_eq_getElem h2)
  exact (congrArg Prod.snd (stepR_uniq h4 h5))
 obtain ⟨a1, a2⟩ := a
 obtain ⟨b1, b2⟩ := b
 rcases ha with ⟨h1, h2, h3⟩ | ⟨ps, x, h1, h2, h3, h4, h5⟩ <;> rcases hb with ⟨k1, k2, k3⟩ | ⟨qs, y, k1, k2, k3, k4, k5⟩ <;> dsimp only at *
 ·subst h1 k1
  have := hisR_len h3 k3 (by omega)
  rw [this, List.take_of_length_le (by omega)]
 ·exact absurd (mix h3 (by omega) k2 k3) k4
 ·exact absurd (mix k3 (by omega) h2 h3) h4
 ·subst h5 k5
  have hlen : ps.length = qs.length := by
   rcases Nat.lt_trichotomy ps.length qs.length with h | h | h
   ·exact absurd (mix k2 (by simp; omega) h2 h3) h4
   ·exact h
   ·exact absurd (mix h2 (by simp; omega) k2 k3) k4
  have e1 := hisR_len h2 k2 (by simp; omega)
  rw [List.take_of_length_le (by simp; omega)] at e1
  have e2 : x = y := by
   have := congrArg List.getLast? e1
   simpa using this
  subst e2
  exact congrArg (fun z => (([] : List (List Ce)), z)) (congrArg Prod.snd (stepR_uniq h3 k3))
end Go.Mx.Tryz
