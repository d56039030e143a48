/- coords.Parse at every text. -/
import Derived.Test.YtfllcbohggcmfaaGreatDoorCa
import Derived.Test.YtfllcbohggcmfaaGreatDoorKg
import Derived.Test.YtfllcbohggcmfaaGreatDoorKp
set_option linter.unusedSimpArgs false
set_option linter.unusedVariables false
set_option linter.unusedSectionVars false
set_option maxRecDepth 100000
namespace Go.Mx.Tryz
open Go.Lib

theorem neg64' {v : Int} (hv : -9223372036854775808 ≤ v ∧ v ≤ 9223372036854775807) : (v = -9223372036854775808 ∧ wr .i64 (-v) = -9223372036854775808) ∨ wr .i64 (-v) = -v := by
 by_cases e : v = -9223372036854775808
 ·subst e
  exact .inl ⟨rfl, by decide⟩
 ·exact .inr (wr_i64 (by omega) (by omega))
theorem chkC_good {x y z : Int} (hx : -9223372036854775808 ≤ x ∧ x ≤ 9223372036854775807) (hy : -9223372036854775808 ≤ y ∧ y ≤ 9223372036854775807) (h : (chkC x y z).2 = 0) : good (chkC x y z).1 = true := by
 have h1 := neg64' hx
 have h2 := neg64' hy
 unfold chkC at h ⊢
 generalize wr .i64 (-x) = nx at *
 generalize wr .i64 (-y) = ny at *
 split at h
 ·cases h
 ·rename_i hn
  split at h
  ·cases h
  ·rename_i hz
   rw [if_neg hn, if_neg hz]
   unfold good placed
   simp only [Bool.and_eq_true, decide_eq_true_eq]
   rcases h1 with ⟨rfl, rfl⟩ | rfl <;> rcases h2 with ⟨rfl, rfl⟩ | rfl <;> omega
theorem cfM_good (l : List Nat) (h : (cfM l).2 = 0) : good (cfM l).1 = true := by
 unfold cfM at h ⊢
 generalize spl 32 l = w at *
 match w, h with
 | [a, b], h =>
  simp only at h ⊢
  split at h
  ·rename_i hk
   rw [if_pos hk]
   exact chkC_good (numM_in a) (numM_in b) h
  ·cases h
 | [a, b, c], h =>
  simp only at h ⊢
  split at h
  ·rename_i hk
   rw [if_pos hk]
   exact chkC_good (numM_in a) (numM_in b) h
  ·cases h
 | [], h => cases h
 | [_], h => cases h
 | _ :: _ :: _ :: _ :: _, h => cases h
theorem prs_good : ∀ (ls : List (List Nat)) (n : Int) (f0 f : List Ce), prs cfM n ls f0 = .inl f → (∀ c, c ∈ f0 → good c = true) → f0.Pairwise apart → f0.length ≤ 5000 → (∀ c, c ∈ f → good c = true) ∧ f.Pairwise apart ∧ f.length ≤ 5000
 | [], n, f0, f, h, h1, h2, h3 => by
  cases h
  exact ⟨h1, h2, h3⟩
 | l :: r, n, f0, f, h, h1, h2, h3 => by
  have e : prs cfM n (l :: r) f0 = match step cfM n l f0 with | .go f' => prs cfM (n + 1) r f' | .er e => .inr (n, e) := rfl
  rw [e] at h
  cases hst : step cfM n l f0 with
  | er x => rw [hst] at h; cases h
  | go f' =>
   rw [hst] at h
   have key : (∀ c, c ∈ f' → good c = true) ∧ f'.Pairwise apart ∧ f'.length ≤ 5000 := by
    unfold step at hst
    split at hst
    ·split at hst
     ·cases hst; exact ⟨h1, h2, h3⟩
     ·cases hst
    ·split at hst
     ·cases hst; exact ⟨h1, h2, h3⟩
     ·split at hst
      ·cases hst
      ·rename_i hz
       split at hst
       ·cases hst
       ·rename_i ha
        split at hst
        ·cases hst
        ·rename_i h5
         cases hst
         have hg := cfM_good l (by omega)
         refine ⟨fun c hc => ?_, List.pairwise_append.2 ⟨h2, List.pairwise_singleton _ _, fun a ha' b hb => ?_⟩, by simp; omega⟩
         ·rcases List.mem_append.1 hc with h | h
          ·exact h1 c h
          ·simp at h; subst h; exact hg
         ·simp at hb
          subst hb
          rw [Bool.not_eq_true, List.any_eq_false] at ha
          have := ha a ha'
          unfold apart
          simpa using this
   exact prs_good r (n + 1) f' f h key.1 key.2.1 key.2.2
theorem less_no' {a b : Ce} (h1 : less a b = false) (h2 : ¬ (b.x = a.x ∧ b.y = a.y)) : less b a = true := by
 unfold less at *
 simp at *
 omega
theorem parse_m (s : List Nat) (hl : s.length ≤ 65536) (h0 : s ≠ []) (hb : ∀ c, c ∈ s → c < 256) :
  (∃ n e, prs cfM 1 (linesA [] s) [] = .inr (n, e) ∧ ∀ H, Gives G 10 [.m (.s s)] H (.tu [.m (.nl 4), .m (.i .i64 n), .m (.i .i64 e)]) H) ∨
  (∃ f q, prs cfM 1 (linesA [] s) [] = .inl f ∧ q.Perm f ∧ Asc q ∧ (q.Pairwise fun a b => less a b = true) ∧ (∀ c, c ∈ q → good c = true) ∧ q.length ≤ 5000 ∧ ∀ H, Gives G 10 [.m (.s s)] H (.tu [.m (zP q), .m (.i .i64 0), .m (.i .i64 0)]) H) := by
 have hlm : ∀ l, l ∈ linesA [] s → l.length ≤ 65536 ∧ ∀ c, c ∈ l → c < 256 := fun l h => by
  obtain ⟨k1, k2⟩ := linesA_mem s [] l h
  exact ⟨by simp at k1; omega, fun c hc => hb c (by simpa using k2 c hc)⟩
 have hpw := fun H => parse_w cfM s hl h0 (fun l hl1 _ _ H => by
  obtain ⟨k1, k2⟩ := hlm l (List.mem_of_mem_drop hl1)
  exact cell_w l (by omega) k2 H) H
 cases hp : prs cfM 1 (linesA [] s) [] with
 | inr p =>
  obtain ⟨n, e⟩ := p
  refine .inl ⟨n, e, rfl, fun H => ?_⟩
  obtain ⟨v, h1, h2⟩ := hpw H
  rw [hp] at h1
  have h1 : v = .tu [.m (.nl 4), .m (.i .i64 n), .m (.i .i64 e)] := h1
  rw [h1] at h2
  exact h2
 | inl f =>
  obtain ⟨hg, ha, h5⟩ := prs_good _ _ _ _ hp (fun c hc => by simp at hc) .nil (by simp)
  have hlv : liv f = f := by
   unfold liv
   rw [List.filter_eq_self]
   intro c hc
   have := hg c hc
   unfold good at this
   simp only [Bool.and_eq_true, decide_eq_true_eq] at this
   exact decide_eq_true (by omega)
  have one : ∀ H, ∃ q, q.Perm f ∧ Asc q ∧ Gives G 10 [.m (.s s)] H (.tu [.m (zP q), .m (.i .i64 0), .m (.i .i64 0)]) H := fun H => by
   obtain ⟨v, h1, h2⟩ := hpw H
   rw [hp] at h1
   obtain ⟨a, e, h3, rfl⟩ := h1
   rcases h3 with ⟨hb, _⟩ | ⟨_, q, k1, k2, k3⟩
   ·rw [bad_good hg] at hb; cases hb
   ·rw [hlv] at k1
    have hqa : q.Pairwise apart := k1.symm.pairwise ha fun {a b} h => by
     unfold apart at *
     omega
    have hqw : q.Pairwise fun a b => less a b = true := by
     rw [List.pairwise_iff_getElem] at hqa ⊢
     intro i j hi hj hij
     have h1 := k2 i j _ _ hij (List.getElem?_eq_getElem hi) (List.getElem?_eq_getElem hj)
     exact less_no' h1 (hqa i j hi hj hij)
    rcases k3 with ⟨ht, _⟩ | ⟨_, h6, _⟩ | ⟨_, _, rfl, rfl⟩
    ·rw [tw_pw hqw] at ht; cases ht
    ·have := k1.length_eq; omega
    ·exact ⟨q, k1, k2, h2⟩
  obtain ⟨q, k1, k2, h2⟩ := one []
  have hqa : q.Pairwise apart := k1.symm.pairwise ha fun {a b} h => by
   unfold apart at *
   omega
  have hqw : q.Pairwise fun a b => less a b = true := by
   rw [List.pairwise_iff_getElem] at hqa ⊢
   intro i j hi hj hij
   have h1 := k2 i j _ _ hij (List.getElem?_eq_getElem hi) (List.getElem?_eq_getElem hj)
   exact less_no' h1 (hqa i j hi hj hij)
  refine .inr ⟨f, q, rfl, k1, k2, hqw, fun c hc => hg c (k1.mem_iff.1 hc), by rw [k1.length_eq]; exact h5, fun H => ?_⟩
  obtain ⟨q', j1, j2, j3⟩ := one H
  have := asc_eq hqw j2 (j1.trans k1.symm)
  rw [this] at j3
  exact j3
theorem parse_nil (H : Hp) : Gives G 10 [.m (.s [])] H (.tu [.m (.nl 4), .m (.i .i64 1), .m (.i .i64 15)]) H := by
 refine gives_pur rfl rfl rfl rfl rfl ?_
 simp (maxSteps := 2000000) (disch := omega) [gd_in, gd_and, wr_i64, ]
end Go.Mx.Tryz
