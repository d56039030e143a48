/- Quads of the audit answers the number of the first invariant that is violated. -/
import Derived.Test.YtbpkmkgnkpeefaaGreatDoorQk
import Derived.Test.YtbpkmkgnkpeefaaGreatDoorQg
import Derived.Test.YtbpkmkgnkpeefaaGreatDoorQf
set_option linter.unusedSimpArgs false
set_option linter.unusedVariables false
set_option linter.unusedSectionVars false
set_option maxRecDepth 100000
namespace Go.Mx.Tryz
open Go.Lib Go.Proofs

def LvH (n : Nat) (L : List Int) (o : V) (H : Hp) : Prop := ∃ H0 lim, o = .sl H0.length L.length 1 0 L.length lim ∧ H = H0 ++ [.cs 3 1 (rowsI L) 0 false] ∧ (lim = true → n ≤ L.length)
theorem lvH_rd {n : Nat} {L : List Int} {o : V} {H : Hp} (h : LvH n L o H) {i : Nat} {y : Int} (hx : L[i]? = some y) : ∃ p, pureX (.ixa 1) [o, .m (.i .i64 (i : Int))] = some p ∧ ∀ B, readX ⟨B, H⟩ (.ld false 1) [p] = some (.m (.i .i64 y)) := by
 have hlt := (List.getElem?_eq_some_iff.1 hx).1
 obtain ⟨H0, lim, rfl, rfl, _⟩ := h
 have hn : nth (rowsI L) i = some [.m (.i .i64 y)] := by rw [nth_get]; simp [rowsI, hx]
 refine ⟨.pt H0.length L.length i 0, ?_, fun B => ?_⟩
 ·simp (maxSteps := 2000000) (disch := omega) [gd_in, gd_and, wr_i64, hlt, show (i : Int) < L.length from by omega]
 ·simp (maxSteps := 2000000) (disch := omega) [gd_in, gd_and, wr_i64, hn, nth_mid]
theorem lvH_nf {n : Nat} {L : List Int} {o : V} {H : Hp} (h : LvH n L o H) : noFaV o = true := by
 obtain ⟨H0, lim, rfl, rfl, _⟩ := h
 rfl
theorem lvH_push {n : Nat} {L : List Int} {o : V} {H : Hp} (h : LvH n L o H) (hn : L.length < n) (hl : n ≤ 1000000) (x : Int) : ∃ o1 H1, (∀ B, appX ⟨B, H⟩ 3 1 8 o [[.m (.i .i64 x)]] = some (o1, ⟨B, H1⟩)) ∧ noFaV o1 = true ∧ LvH n (L ++ [x]) o1 H1 := by
 obtain ⟨H0, lim, rfl, rfl, hlim⟩ := h
 have : lim = false := by
  cases lim with
  | false => rfl
  | true => have := hlim rfl; omega
 subst this
 have ha := fun B => app_row (M := ⟨B, H0 ++ [.cs 3 1 (rowsI L) 0 false]⟩) (r := H0.length) (bytes := 8) (xs := [[.m (.i .i64 x)]]) (nth_mid _ _ _) (by simp) (by simp [rowsI_len]; omega) rfl
 simp only [rowsI_len, List.length_cons, List.length_nil, Nat.zero_add, rowsI_snoc] at ha
 have e : (H0 ++ [Row.cs 3 1 (rowsI L) 0 false]).set H0.length (.cs 3 1 (rowsI (L ++ [x])) 0 false) = H0 ++ [.cs 3 1 (rowsI (L ++ [x])) 0 false] := by
  rw [List.set_append_right _ _ (Nat.le_refl _)]
  simp
 rw [e] at ha
 exact ⟨_, _, ha, rfl, H0, false, by simp, rfl, fun h => (by cases h)⟩
theorem lz_get {t : Nat} {l : List Qd} {i k : Nat} (hk : k < t + i) (hi : i ≤ l.length) : (List.replicate t (0 : Int) ++ levs (t : Int) (l.take i))[k]? = some (lvA (t : Int) (levs (t : Int) (l.take i)) (k : Int)) := by
 unfold lvA
 by_cases h : k < t
 ·rw [if_pos (by omega), List.getElem?_append_left (by simpa using h)]
  simp [h]
 ·rw [if_neg (by omega), List.getElem?_append_right (by simp; omega), List.length_replicate]
  have : ((k : Int) - t).toNat = k - t := by omega
  rw [this, List.getD_eq_getElem?_getD]
  have hlen : (levs (t : Int) (l.take i)).length = i := by rw [levs_len, List.length_take]; omega
  rw [List.getElem?_eq_getElem (by omega)]
  rfl
theorem lvH_at {n t i : Nat} {l : List Qd} {s : Int} {o : V} {H : Hp} (ht : s = (t : Int)) (h : LvH n (List.replicate t (0 : Int) ++ levs s (l.take i)) o H) (hi : i ≤ l.length) {k : Int} (h0 : 0 ≤ k) (hk : k < s + (i : Int)) : ∃ p, pureX (.ixa 1) [o, .m (.i .i64 k)] = some p ∧ ∀ B, readX ⟨B, H⟩ (.ld false 1) [p] = some (.m (.i .i64 (lvA s (levs s (l.take i)) k))) := by
 subst ht
 obtain ⟨j, rfl⟩ := Int.eq_ofNat_of_zero_le h0
 exact lvH_rd h (lz_get (by omega) hi)
theorem kids_call {F : Nat} {a b c d : Int} {H1 : Hp} {m : Int} (hp : G.prim F = none) (hs : G.sh F = false) (h : Gives G F [.m (.sl [[.i .i64 a], [.i .i64 b], [.i .i64 c], [.i .i64 d]])] [] (.m (.i .i64 m)) []) :
  Gives G F [.sl H1.length 4 1 0 4 true] (H1 ++ [.cs 49 1 [[.m (.i .i64 a)], [.m (.i .i64 b)], [.m (.i .i64 c)], [.m (.i .i64 d)]] 4 false]) (.m (.i .i64 m)) (H1 ++ [.cs 49 1 [[.m (.i .i64 a)], [.m (.i .i64 b)], [.m (.i .i64 c)], [.m (.i .i64 d)]] 4 false]) := by
 refine gives_view (is := [.sl [[.i .i64 a], [.i .i64 b], [.i .i64 c], [.i .i64 d]]]) hp hs h ?_ (.inr ⟨by simp [refs, ref1], rfl⟩)
 have e : elems (H1 ++ [.cs 49 1 [[.m (.i .i64 a)], [.m (.i .i64 b)], [.m (.i .i64 c)], [.m (.i .i64 d)]] 4 false]) (.sl H1.length 4 1 0 4 true) = some [[.m (.i .i64 a)], [.m (.i .i64 b)], [.m (.i .i64 c)], [.m (.i .i64 d)]] := by
  show Option.bind (nth _ H1.length) _ = _
  rw [nth_mid]
  rfl
 show Option.bind (Option.bind (elems _ (.sl H1.length 4 1 0 4 true)) _) _ = _
 rw [e]
 rfl
theorem inR_iff {s : Int} {i : Nat} {x : Qd} : inR s i x ↔ 0 ≤ min (min (min x.a x.b) x.c) x.d ∧ max (max (max x.a x.b) x.c) x.d < s + (i : Int) := by
 unfold inR Qd.ks
 simp only [List.mem_cons, List.not_mem_nil, or_false, forall_eq_or_imp, forall_eq]
 omega
theorem numQ_6 {s : Int} {l : List Qd} (h : rightQ s l = false) : numQ s l ≠ 0 := fun h' => by
 have := numQ_0 (s := s) (l := l)
 rw [h, decide_eq_true h'] at this
 cases this
end Go.Mx.Tryz
