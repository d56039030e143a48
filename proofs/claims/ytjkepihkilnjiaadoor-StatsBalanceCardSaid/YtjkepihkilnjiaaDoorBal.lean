/- Births and deaths: the plain law. -/
import Derived.Test.YtjkepihkilnjiaaDoorOf
import Derived.Test.YtjkepihkilnjiaaDoorTd
set_option linter.unusedSimpArgs false
set_option linter.unusedVariables false
set_option linter.unusedSectionVars false
set_option maxRecDepth 100000
namespace Go.Mx.Tryd
open Go.Lib

def posC (c : Ce) : Int × Int := (c.x, c.y)
theorem pos_nodup {p : List Ce} (h : p.Pairwise fun a b => less a b = true) : (p.map posC).Nodup := by
 have := posM_nodup h
 rw [posM_keys] at this
 exact this
theorem occ_iff (q : List Ce) (k : Int × Int) : occ q k = true ↔ ∃ c, c ∈ q ∧ posC c = k := by
 unfold occ posC
 rw [List.any_eq_true]
 constructor
 ·rintro ⟨c, h1, h2⟩; exact ⟨c, h1, of_decide_eq_true h2⟩
 ·rintro ⟨c, h1, h2⟩; exact ⟨c, h1, decide_eq_true h2⟩
theorem born_occ {p : List Ce} (hg : ∀ d, d ∈ p → good d = true) (c : Ce) : born p c = !occ p (posC c) := by
 unfold born posC
 rw [occ_get hg, Bool.not_not]
theorem both_len {p q : List Ce} (hp : p.Pairwise fun a b => less a b = true) (hq : q.Pairwise fun a b => less a b = true) : (q.filter fun c => occ p (posC c)).length = (p.filter fun c => occ q (posC c)).length := by
 have n1 : ((q.filter fun c => occ p (posC c)).map posC).Nodup := (pos_nodup hq).sublist (List.filter_sublist.map _)
 have n2 : ((p.filter fun c => occ q (posC c)).map posC).Nodup := (pos_nodup hp).sublist (List.filter_sublist.map _)
 have hm : ∀ k, k ∈ (q.filter fun c => occ p (posC c)).map posC ↔ k ∈ (p.filter fun c => occ q (posC c)).map posC := fun k => by
  simp only [List.mem_map, List.mem_filter, occ_iff]
  constructor
  ·rintro ⟨c, ⟨h1, d, h2, h3⟩, rfl⟩
   exact ⟨d, ⟨h2, c, h1, h3.symm⟩, h3⟩
  ·rintro ⟨c, ⟨h1, d, h2, h3⟩, rfl⟩
   exact ⟨d, ⟨h2, c, h1, h3.symm⟩, h3⟩
 have hl := ((List.perm_ext_iff_of_nodup n1 n2).2 hm).length_eq
 simpa using hl
theorem cnt_not {α : Type} (f : α → Bool) (l : List α) : cnt (fun c => !f c) l = l.length - cnt f l := by
 induction l with
 | nil => rfl
 | cons a r ih =>
  unfold cnt at *
  cases h : f a <;> simp [h] at * <;> omega
theorem bal {p q : List Ce} (hp : right p = true) (hq : right q = true) : (q.length : Int) = p.length + cnt (born p) q - cnt (born q) p := by
 obtain ⟨p1, p2, _⟩ := right_pwB hp
 obtain ⟨q1, q2, _⟩ := right_pwB hq
 have e1 : born p = fun c => !occ p (posC c) := funext fun c => born_occ p2 c
 have e2 : born q = fun c => !occ q (posC c) := funext fun c => born_occ q2 c
 rw [e1, e2, cnt_not, cnt_not]
 have := both_len p1 q1
 unfold cnt
 omega
end Go.Mx.Tryd
