/- A store of quadtrees: Join. -/
import Derived.Test.YtbpkmkgnkpeefaaGreatDoorQi
set_option linter.unusedSimpArgs false
set_option linter.unusedVariables false
set_option linter.unusedSectionVars false
set_option maxRecDepth 100000
namespace Go.Mx.Tryz
open Go.Lib Go.Proofs

theorem lvZ_Q (s : Int) (q : List Qd) (k : Int) : lvZ s (levs s q) k = lvQ s q k := by
 unfold lvZ lvQ
 rw [levs_len]
def NxtQ (s : Int) (q : List Qd) (x : Qd) : Prop := (0 ≤ lvQ s q x.a ∧ lvQ s q x.a < 256) ∧ lvQ s q x.b = lvQ s q x.a ∧ lvQ s q x.c = lvQ s q x.a ∧ lvQ s q x.d = lvQ s q x.a ∧ ¬ x ∈ q
theorem nxtQ_good {s : Int} {l : List Qd} {i : Nat} {x : Qd} (hi : i ≤ l.length) : GoodQ s l i x ↔ NxtQ s (l.take i) x := good_iff hi
def JoinQ (s : Int) (q : List Qd) (x : Qd) (v : V) (H : Hp) : Prop :=
 (NxtQ s q x ∧ v = .tu [.m (.i .i64 (s + (q.length : Int))), .m (.i .i64 0)] ∧ ∃ m nv wv R, H = hpQ s m nv wv 1 R ∧ RQ s (q ++ [x]) nv wv 1 R ∧ KnQ s (q ++ [x]) m) ∨
 (¬ NxtQ s q x ∧ ∃ id e : Int, v = .tu [.m (.i .i64 id), .m (.i .i64 e)] ∧ (e ≠ 0 ∨ id ≠ s + (q.length : Int)))
theorem cells_one {v : V} (h : oneV v = true) : cellsV v = some [v] := by
 unfold oneV at h
 split at h <;> simp_all [cellsV]
theorem rd4 (a b c d : V) : readR 4 [[a, b, c, d]] 0 0 1 = some [a] ∧ readR 4 [[a, b, c, d]] 0 1 1 = some [b] ∧ readR 4 [[a, b, c, d]] 0 2 1 = some [c] ∧ readR 4 [[a, b, c, d]] 0 3 1 = some [d] := ⟨rfl, rfl, rfl, rfl⟩
theorem wt4 (a b c d y : V) : writeR 4 [[a, b, c, d]] 0 1 [y] = some [[a, y, c, d]] ∧ writeR 4 [[a, b, c, d]] 0 2 [y] = some [[a, b, y, d]] := ⟨rfl, rfl⟩
set_option maxHeartbeats 4000000 in
theorem join_w {s : Int} {q : List Qd} {m : List (Qd × Int)} {nv wv : V} {b : Nat} {R : Hp} (h : RQ s q nv wv b R) (hm : KnQ s q m) (hs : 2 ≤ s ∧ s ≤ 8) (hl : q.length < 100000) (x : Qd) :
  Ret G 100 [.pt 1 1 0 0, .m (.i .i64 x.a), .m (.i .i64 x.b), .m (.i .i64 x.c), .m (.i .i64 x.d)] (hpQ s m nv wv b R) (JoinQ s q x) := by
 have gl := fun k => level_w (m := m) h hs (Nat.le_of_lt hl) k
 simp only [lvZ_Q] at gl
 have ga := fun (_ : Unit) => gl x.a
 have gb := fun (_ : Unit) => gl x.b
 have gc := fun (_ : Unit) => gl x.c
 have gd4 := fun (_ : Unit) => gl x.d
 obtain ⟨n1, n2, n3, n4, n5, n6, n7⟩ := rQ_nf h
 have n7 : b ≤ 1 := Nat.le_of_ble_eq_true n7
 have ni : isNil 0 (.pt 1 1 0 0) = some false := rfl
 have w1 : wr .i64 (1 + 1) = 2 := by decide
 have w2 : wr .i64 (2 + 1) = 3 := by decide
 have w3 : wr .i64 (3 + 1) = 4 := by decide
 have em : mkAg [.m (.i .i64 x.a), .m (.i .i64 x.b), .m (.i .i64 x.c), .m (.i .i64 x.d)] = .m (.ag [.i .i64 x.a, .i .i64 x.b, .i .i64 x.c, .i .i64 x.d]) := rfl
 refine ret_sh mono rfl rfl rfl rfl rfl ?_
 generalize hQ : JoinQ s q x = Q
 have qb : ¬ NxtQ s q x → ∀ id e : Int, (e ≠ 0 ∨ id ≠ s + (q.length : Int)) → ∀ H, Q (.tu [.m (.i .i64 id), .m (.i .i64 e)]) H := fun hn id e he H => by rw [← hQ]; exact .inr ⟨hn, id, e, rfl, he⟩
 simp (maxSteps := 2000000) (disch := omega) [gd_in, gd_and, wr_i64, ni]
 unfold c100_B0
 by_cases a1 : lvQ s q x.a < 0
 ·have k := qb (fun h => by have := h.1; omega) 0 13 (.inl (by decide))
  simp (maxSteps := 2000000) (disch := omega) [gd_in, gd_and, wr_i64, gcall_cx, cl (ga ()), a1]
  exact k _
 simp (maxSteps := 2000000) (disch := omega) [gd_in, gd_and, wr_i64, gcall_cx, cl (ga ()), a1, w1, w2, w3]
 unfold c100_B0
 by_cases b1 : lvQ s q x.b < 0
 ·have k := qb (fun h => by have := h.1; have := h.2.1; omega) 0 13 (.inl (by decide))
  simp (maxSteps := 2000000) (disch := omega) [gd_in, gd_and, wr_i64, gcall_cx, cl (gb ()), b1]
  exact k _
 simp (maxSteps := 2000000) (disch := omega) [gd_in, gd_and, wr_i64, gcall_cx, cl (gb ()), b1, w1, w2, w3]
 unfold c100_B0
 by_cases c1 : lvQ s q x.c < 0
 ·have k := qb (fun h => by have := h.1; have := h.2.2.1; omega) 0 13 (.inl (by decide))
  simp (maxSteps := 2000000) (disch := omega) [gd_in, gd_and, wr_i64, gcall_cx, cl (gc ()), c1]
  exact k _
 simp (maxSteps := 2000000) (disch := omega) [gd_in, gd_and, wr_i64, gcall_cx, cl (gc ()), c1, w1, w2, w3]
 unfold c100_B0
 by_cases d1 : lvQ s q x.d < 0
 ·have k := qb (fun h => by have := h.1; have := h.2.2.2.1; omega) 0 13 (.inl (by decide))
  simp (maxSteps := 2000000) (disch := omega) [gd_in, gd_and, wr_i64, gcall_cx, cl (gd4 ()), d1]
  exact k _
 simp (maxSteps := 2000000) (disch := omega) [gd_in, gd_and, wr_i64, gcall_cx, cl (gd4 ()), d1, w1, w2, w3]
 unfold c100_B0
 clear ga gb gc gd4 gl
 generalize hA : lvQ s q x.a = A at *
 by_cases b2 : lvQ s q x.b = A
 rotate_left
 ·have k := qb (fun h => b2 (by rw [h.2.1, hA])) 0 18 (.inl (by decide))
  simp (maxSteps := 2000000) (disch := omega) [gd_in, gd_and, wr_i64, b2]
  exact k _
 by_cases c2 : lvQ s q x.c = A
 rotate_left
 ·have k := qb (fun h => c2 (by rw [h.2.2.1, hA])) 0 18 (.inl (by decide))
  simp (maxSteps := 2000000) (disch := omega) [gd_in, gd_and, wr_i64, b2, c2]
  exact k _
 by_cases d2 : lvQ s q x.d = A
 rotate_left
 ·have k := qb (fun h => d2 (by rw [h.2.2.2.1, hA])) 0 18 (.inl (by decide))
  simp (maxSteps := 2000000) (disch := omega) [gd_in, gd_and, wr_i64, b2, c2, d2]
  exact k _
 by_cases a2 : 256 ≤ A
 ·have k := qb (fun h => by have := h.1; omega) 0 18 (.inl (by decide))
  simp (maxSteps := 2000000) (disch := omega) [gd_in, gd_and, wr_i64, b2, c2, d2, a2]
  exact k _
 have r4 := rd4 (.m (.i .i64 s)) nv wv (.mp 0)
 have vm : valOf false [V.mp 0] = some (.mp 0) := rfl
 have nc : pureX .nck [.pt 1 1 0 0] = some (.pt 1 1 0 0) := rfl
 cases hf : mfind m x with
 | some id =>
  obtain ⟨h1, h2⟩ := (hm x).1 id hf
  have k := qb (fun h => h.2.2.2.2 h1) id 0 (.inr (by omega))
  simp (maxSteps := 2000000) (disch := omega) [gd_in, gd_and, wr_i64, b2, c2, d2, a2, nc, r4, vm, mQ_get, hf, n7]
  exact k _
 | none =>
  have hnot := (hm x).2 hf
  have hn : NxtQ s q x := ⟨by omega, by omega, by omega, by omega, hnot⟩
  obtain ⟨nv1, R1, wv1, R2, p1, p2, p3, p4, p5, p6, p7⟩ := appQ (m := m) h hl (x := x) (by omega : 0 ≤ lvQ s q x.a)
  rw [hA] at p4
  have r5 := rd4 (.m (.i .i64 s)) nv1 wv (.mp 0)
  have r6 := rd4 (.m (.i .i64 s)) nv1 wv1 (.mp 0)
  have t5 := (wt4 (.m (.i .i64 s)) nv wv (.mp 0) nv1).1
  have t6 := (wt4 (.m (.i .i64 s)) nv1 wv (.mp 0) wv1).2
  have c5 : cellsV nv1 = some [nv1] ∧ cellsV wv1 = some [wv1] := ⟨cells_one p2, cells_one p5⟩
  have hkn := knQ_set hm x
  have wn : wr .i64 (s + (q.length : Int)) = s + (q.length : Int) := wr_i64 (by omega) (by omega)
  have wA : wr .i64 (A + 1) = A + 1 := wr_i64 (by omega) (by omega)
  have hq1 : ¬ 100000 ≤ (q.length : Int) := by omega
  simp (maxSteps := 2000000) (disch := omega) [gd_in, gd_and, wr_i64, b2, c2, d2, a2, nc, r4, r5, r6, t5, t6, vm, mQ_get, mQ_up, hf, n1, n2, n3, n4, n5, n7, hq1, wn, wA, p1, p2, p3, p4, p5, p6, c5]
  rw [← hQ]
  exact .inl ⟨hn, rfl, _, _, _, _, rfl, p7, hkn⟩
end Go.Mx.Tryz
