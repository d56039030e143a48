/- Unit propagation: what every order of the steps comes to. -/
import Derived.Test.YtcdcepfigjohfaaGreatDoorZa
set_option linter.unusedSimpArgs false
set_option linter.unusedVariables false
set_option linter.unusedSectionVars false
set_option maxRecDepth 100000
namespace Go.Mx.Tryz

inductive UC (C : List (List Int)) (l : List Int) : Int → Prop
 | base {x : Int} : x ∈ l → UC C l x
 | unit {c : List Int} {x : Int} : c ∈ C → x ∈ c → (∀ y, y ∈ c → y ≠ x → UC C l (-y)) → UC C l x
def Conf (C : List (List Int)) (l : List Int) : Prop := opp l = true ∨ ∃ c, c ∈ C ∧ ∀ y, y ∈ c → UC C l (-y)
structure UState (C : List (List Int)) (l a : List Int) : Prop where
 sub : ∀ x, x ∈ a → UC C l x
 base : ∀ x, x ∈ l → x ∈ a
 con : opp a = opp l
theorem UState.start {C : List (List Int)} {l : List Int} : UState C l l := ⟨fun _ h => .base h, fun _ h => h, rfl⟩
theorem mem_rst {a c : List Int} {x : Int} : x ∈ rst a c ↔ x ∈ c ∧ ¬ -x ∈ a := by simp [rst]
theorem sat_iff {a c : List Int} : sat a c = true ↔ ∃ x, x ∈ c ∧ x ∈ a := by simp [sat]
theorem opp_push {l : List Int} {x : Int} (hx : x ≠ 0) (h : ¬ -x ∈ l) : opp (l ++ [x]) = opp l := by
 cases ho : opp l with
 | true =>
  obtain ⟨a, h1, h2⟩ := opp_iff.1 ho
  exact opp_iff.2 ⟨a, List.mem_append_left _ h1, List.mem_append_left _ h2⟩
 | false =>
  cases h3 : opp (l ++ [x]) with
  | false => rfl
  | true =>
   obtain ⟨a, h4, h5⟩ := opp_iff.1 h3
   have h6 : ¬ ∃ a, a ∈ l ∧ -a ∈ l := fun k => by rw [opp_iff.2 k] at ho; cases ho
   simp only [List.mem_append, List.mem_singleton] at h4 h5
   rcases h4 with h4 | rfl
   ·rcases h5 with h5 | h5
    ·exact absurd ⟨a, h4, h5⟩ h6
    ·exact absurd (by rw [← h5, Int.neg_neg]; exact h4) h
   ·rcases h5 with h5 | h5
    ·exact absurd h5 h
    ·omega
theorem UState.step {C : List (List Int)} {l a c : List Int} {x : Int} (h : UState C l a) (hc : c ∈ C) (h0 : x ≠ 0) (hr : ∀ y, y ∈ rst a c ↔ y = x) : UState C l (a ++ [x]) := by
 have hx := mem_rst.1 ((hr x).2 rfl)
 refine ⟨fun y hy => ?_, fun y hy => List.mem_append_left _ (h.base y hy), (opp_push h0 hx.2).trans h.con⟩
 rcases List.mem_append.1 hy with h1 | h1
 ·exact h.sub y h1
 ·rw [List.mem_singleton] at h1
  subst h1
  refine .unit hc hx.1 fun u hu hne => ?_
  by_cases h2 : -u ∈ a
  ·exact h.sub _ h2
  ·exact absurd ((hr u).1 (mem_rst.2 ⟨hu, h2⟩)) hne
theorem UState.stuck {C : List (List Int)} {l a c : List Int} (h : UState C l a) (hc : c ∈ C) (hr : rst a c = []) : Conf C l := by
 refine .inr ⟨c, hc, fun y hy => ?_⟩
 by_cases h2 : -y ∈ a
 ·exact h.sub _ h2
 ·have := mem_rst.2 ⟨hy, h2⟩
  rw [hr] at this
  cases this
def Okc (a c : List Int) : Prop := sat a c = true ∨ ∃ x y, x ≠ y ∧ x ∈ rst a c ∧ y ∈ rst a c
theorem Okc.push {a c : List Int} (h : Okc a c) (x : Int) : Okc (a ++ [x]) c ∨ -x ∈ c := by
 rcases h with h | ⟨u, v, hne, hu, hv⟩
 ·obtain ⟨y, h1, h2⟩ := sat_iff.1 h
  exact .inl (.inl (sat_iff.2 ⟨y, h1, List.mem_append_left _ h2⟩))
 ·by_cases hx : -x ∈ c
  ·exact .inr hx
  ·have key : ∀ w, w ∈ rst a c → w ∈ rst (a ++ [x]) c := fun w hw => by
    obtain ⟨k1, k2⟩ := mem_rst.1 hw
    refine mem_rst.2 ⟨k1, fun k => ?_⟩
    rcases List.mem_append.1 k with k | k
    ·exact k2 k
    ·rw [List.mem_singleton] at k
     exact hx (by rw [← k, Int.neg_neg]; exact k1)
   exact .inl (.inr ⟨u, v, hne, key u hu, key v hv⟩)
theorem UState.closed {C : List (List Int)} {l a : List Int} (h : UState C l a) (ho : opp l = false) (hk : ∀ c, c ∈ C → Okc a c) : (∀ x, UC C l x ↔ x ∈ a) ∧ ¬ Conf C l := by
 have hcon : ∀ x, x ∈ a → ¬ -x ∈ a := fun x h1 h2 => by
  have := opp_iff.2 ⟨x, h1, h2⟩
  rw [h.con, ho] at this
  cases this
 have hu : ∀ x, UC C l x → x ∈ a := fun x hx => by
  induction hx with
  | base h1 => exact h.base _ h1
  | @unit c x hc hxc _ ih =>
   rcases hk c hc with h1 | ⟨u, v, hne, h1, h2⟩
   ·obtain ⟨y, k1, k2⟩ := sat_iff.1 h1
    by_cases e : y = x
    ·rw [← e]; exact k2
    ·exact absurd (ih y k1 e) (hcon y k2)
   ·obtain ⟨u1, u2⟩ := mem_rst.1 h1
    obtain ⟨v1, v2⟩ := mem_rst.1 h2
    by_cases e : u = x
    ·exact absurd (ih v v1 fun e2 => hne (e.trans e2.symm)) v2
    ·exact absurd (ih u u1 e) u2
 refine ⟨fun x => ⟨hu x, h.sub x⟩, fun hcf => ?_⟩
 rcases hcf with h1 | ⟨c, hc, h1⟩
 ·rw [ho] at h1
  cases h1
 ·rcases hk c hc with h2 | ⟨u, v, _, h2, _⟩
  ·obtain ⟨y, k1, k2⟩ := sat_iff.1 h2
   exact hcon y k2 (hu _ (h1 y k1))
  ·obtain ⟨u1, u2⟩ := mem_rst.1 h2
   exact u2 (hu _ (h1 u u1))
def UnQ (C : List (List Int)) (l q : List Int) : Prop := ¬ Conf C l ∧ Inc litLt q ∧ ∀ x, x ∈ q ↔ UC C l x ∧ ¬ x ∈ l
theorem UState.ans {C : List (List Int)} {l us : List Int} (h : UState C l (l ++ us)) (ho : opp l = false) (hk : ∀ c, c ∈ C → Okc (l ++ us) c) (hd : ∀ x, x ∈ us → ¬ x ∈ l) : UnQ C l (nrm us) := by
 obtain ⟨h1, h2⟩ := h.closed ho hk
 refine ⟨h2, srtU_inc sto_lit us, fun x => ?_⟩
 rw [mem_nrm, h1]
 constructor
 ·exact fun hx => ⟨List.mem_append_right _ hx, hd x hx⟩
 ·exact fun hx => (List.mem_append.1 hx.1).resolve_left hx.2
theorem UnQ.uniq {C : List (List Int)} {l q r : List Int} (h : UnQ C l q) (k : UnQ C l r) : q = r := inc_uniq sto_lit h.2.1 k.2.1 fun x => by rw [h.2.2, k.2.2]
def mu (C : List (List Int)) (a : List Int) : Nat := (C.flatten.filter fun x => !decide (x ∈ a)).length
theorem filt_lt {p q : Int → Bool} : ∀ {l : List Int}, (∀ y, q y = true → p y = true) → ∀ {x : Int}, x ∈ l → p x = true → q x = false → (l.filter q).length < (l.filter p).length
 | y :: r, hpq, x, hx, h1, h2 => by
  have hle : (r.filter q).length ≤ (r.filter p).length := by
   rw [← List.countP_eq_length_filter, ← List.countP_eq_length_filter]
   exact List.countP_mono_left fun y _ h => hpq y h
  by_cases e : x = y
  ·subst e
   rw [List.filter_cons, List.filter_cons, h1, h2]
   simp
   omega
  ·have ih := filt_lt hpq ((List.mem_cons.1 hx).resolve_left e) h1 h2
   rw [List.filter_cons, List.filter_cons]
   cases hq : q y with
   | true => rw [hpq y hq]; simpa using ih
   | false =>
    cases p y <;> simp <;> omega
theorem mu_lt {C : List (List Int)} {a c : List Int} {x : Int} (hc : c ∈ C) (hx : x ∈ c) (h : ¬ x ∈ a) : mu C (a ++ [x]) < mu C a := by
 refine filt_lt (fun y hy => ?_) (List.mem_flatten.2 ⟨c, hc, hx⟩) (by simp [h]) (by simp)
 simp only [List.mem_append, Bool.not_eq_true', decide_eq_false_iff_not, not_or] at hy ⊢
 exact hy.1
end Go.Mx.Tryz
