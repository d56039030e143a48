/- Quads of the audit: the walk. -/
import Derived.Test.YtbpkmkgnkpeefaaGreatDoorQl
set_option linter.unusedSimpArgs false
set_option linter.unusedVariables false
set_option linter.unusedSectionVars false
set_option maxRecDepth 100000
namespace Go.Mx.Tryz
open Go.Lib Go.Proofs

set_option maxHeartbeats 8000000 in
theorem quads_q {v : I} {s : Int} {l : List Qd} (hv : IsSl v (cellsQ l)) (hl : l.length ≤ 100000) (H : Hp) : Gives G 7 [.m (.ag [.i .i64 s, v])] H (.m (.i .i64 (numQ s l))) H := by
 have hrv := hv.rules
 simp only [cellsQ_len] at hrv
 have hv1 := isSl_q hv
 have key : ∃ x H', Gives G 7 [.m (.ag [.i .i64 s, v])] H x H' ∧ (H' = H ∧ x = .m (.i .i64 (numQ s l))) := by
  refine gives_of_ret ?_
  refine ret_pur rfl rfl rfl rfl rfl ?_
  generalize hQ : (fun (x : V) (H' : Hp) => H' = H ∧ x = .m (.i .i64 (numQ s l))) = Q
  have qk : ∀ b, numQ s l = b → Q (.m (.i .i64 b)) H := fun b hh => by rw [← hQ, hh]; exact ⟨rfl, rfl⟩
  clear hQ
  have gr := right_q hv hl (s := s) []
  cases hR : rightQ s l with
  | true =>
   rw [hR] at gr
   have k := qk 0 (by
    have := numQ_0 (s := s) (l := l)
    rw [hR] at this
    exact of_decide_eq_true this)
   simp (maxSteps := 2000000) (disch := omega) [gd_in, gd_and, wr_i64, hv1, hrv, cl gr]
   exact k
  | false =>
  rw [hR] at gr
  by_cases h2 : s < 2
  ·have k := qk 1 (if_pos (.inl h2))
   simp (maxSteps := 2000000) (disch := omega) [gd_in, gd_and, wr_i64, hv1, hrv, cl gr, h2]
   exact k
  by_cases h8 : 8 < s
  ·have k := qk 1 (if_pos (.inr h8))
   simp (maxSteps := 2000000) (disch := omega) [gd_in, gd_and, wr_i64, hv1, hrv, cl gr, h2, h8]
   exact k
  have hl3 : ¬ 100000 < (l.length : Int) := by omega
  have hl4 : ¬ 100000 < l.length := by omega
  have hn0 := numQ_6 hR
  have eN : numQ s l = if allQ l (fun i x => decide (inR s i x)) = false then 3
   else if allQ l (fun i x => decide (eqL s (levs s (l.take i)) x)) = false then 4
   else if allQ l (fun i x => decide (lvA s (levs s (l.take i)) x.a < 256)) = false then 5
   else if allQ l (fun i x => decide (¬ x ∈ l.take i)) = false then 6 else 0 := by unfold numQ; rw [if_neg (by omega), if_neg hl4]
  have q3 : ∀ i x, l[i]? = some x → ¬ inR s i x → Q (.m (.i .i64 3)) H := fun i x hx hn => qk 3 (by
   rw [eN, if_pos]
   rw [← Bool.not_eq_true, allQ_iff]
   intro h
   exact hn (of_decide_eq_true (h i x hx)))
  obtain ⟨t, ht⟩ : ∃ t : Nat, s = (t : Int) := ⟨s.toNat, by omega⟩
  simp (maxSteps := 2000000) (disch := omega) [gd_in, gd_and, wr_i64, hv1, hrv, cl gr, h2, h8, hl3, hl4]
  refine (?key : ∀ (i : Nat) (B : List (Nat × List V)) (H1 : Hp), i ≤ l.length → getB B 1 = some [.m (.i .i64 s), .m v] → (∀ j x, j < i → l[j]? = some x → inR s j x) → Run G c7_B0 (S7_0 (.fa 1 0) (.m v) (.m (.i .i64 (l.length : Nat))) (.m (.i .i64 (i : Int))) B H1) _) 0 _ _ (Nat.zero_le _) rfl (fun j x hj => by omega)
  refine indM (fun i : Nat => l.length - i) fun i ih B H1 hi hB1 hin => ?_
  unfold c7_B0
  cases hx : l[i]? with
  | none =>
   have : i = l.length := by have := List.getElem?_eq_none_iff.1 hx; omega
   subst this
   have hall : ∀ j x, l[j]? = some x → inR s j x := fun j x hj => hin j x (List.getElem?_eq_some_iff.1 hj).1 hj
   clear ih hin hi hx
   have a3 : allQ l (fun i x => decide (inR s i x)) = true := allQ_iff.2 fun i x hx => decide_eq_true (hall i x hx)
   rw [a3, if_neg (by decide)] at eN
   clear q3
   have q4 : ∀ i x, l[i]? = some x → ¬ eqL s (levs s (l.take i)) x → Q (.m (.i .i64 4)) H := fun i x hx hn => qk 4 (by
    rw [eN, if_pos]
    rw [← Bool.not_eq_true, allQ_iff]
    intro h
    exact hn (of_decide_eq_true (h i x hx)))
   have wn : wr .i64 (s + (l.length : Int)) = ((t + l.length : Nat) : Int) := by rw [wr_i64 (by omega) (by omega)]; omega
   have m1 : nat? ((t : Int) + (l.length : Int)) = some (t + l.length) := by rw [← Int.natCast_add]; rfl
   have m2 : nat? s = some t := by rw [ht]; rfl
   have m3 : (t + l.length) * 8 ≤ 281474976710656 := by omega
   have m4 : t + l.length ≤ 9223372036854775807 := by omega
   have m5 : t ≤ t + l.length := by omega
   have tn : s.toNat = t := by omega
   simp (maxSteps := 2000000) (disch := omega) [gd_in, gd_and, wr_i64, hrv, hB1, wn, m1, m2, m3, m4, m5, tn, -Int.natCast_add]
   refine (?key2 : ∀ (i : Nat) (o : V) (dp : Int) (B : List (Nat × List V)) (H2 : Hp), i ≤ l.length → getB B 1 = some [.m (.i .i64 s), .m v] → (∀ j x, j < i → l[j]? = some x → eqL s (levs s (l.take j)) x ∧ lvA s (levs s (l.take j)) x.a + 1 ≤ dp) → (dp = 0 ∨ ∃ j x, l[j]? = some x ∧ dp = lvA s (levs s (l.take j)) x.a + 1) →
    LvH (t + l.length) (List.replicate t (0 : Int) ++ levs s (l.take i)) o H2 → Run G c7_B2 (S7_2 o (.m (.i .i64 dp)) (.m v) (.m (.i .i64 (l.length : Nat))) (.m (.i .i64 (i : Int))) B H2) _) 0 _ 0 _ _ (Nat.zero_le _) hB1 (fun j x hj => by omega) (.inl rfl) ⟨H1, decide (t = t + l.length), by simp [levs], by simp [levs, rowsI], fun h => by have := of_decide_eq_true h; simp [levs]; omega⟩
   clear hB1 B
   refine indM (fun i : Nat => l.length - i) fun i ih o dp B H2 hi hB1 hin hdp ho => ?_
   unfold c7_B2
   have hnf := lvH_nf ho
   cases hx : l[i]? with
   | none =>
    have : i = l.length := by have := List.getElem?_eq_none_iff.1 hx; omega
    subst this
    have a4 : allQ l (fun i x => decide (eqL s (levs s (l.take i)) x)) = true := allQ_iff.2 fun i x hx => decide_eq_true (hin i x (List.getElem?_eq_some_iff.1 hx).1 hx).1
    rw [a4, if_neg (by decide)] at eN
    by_cases hd : 256 < dp
    ·have k := qk 5 (by
      rw [eN, if_pos]
      rw [← Bool.not_eq_true, allQ_iff]
      intro h
      rcases hdp with h0 | ⟨j, x, hj, h0⟩
      ·omega
      ·have := of_decide_eq_true (h j x hj)
       omega)
     simp (maxSteps := 2000000) (disch := omega) [gd_in, gd_and, wr_i64, hrv, hB1, hd, setC_v hnf]
     exact k
    ·have a5 : allQ l (fun i x => decide (lvA s (levs s (l.take i)) x.a < 256)) = true := allQ_iff.2 fun i x hx => decide_eq_true (by
      have := (hin i x (List.getElem?_eq_some_iff.1 hx).1 hx).2
      omega)
     rw [a5, if_neg (by decide)] at eN
     have k := qk 6 (by
      rw [eN, if_pos]
      cases h6 : allQ l (fun i x => decide (¬ x ∈ l.take i)) with
      | false => rfl
      | true =>
       rw [h6, if_neg (by decide)] at eN
       exact absurd eN hn0)
     simp (maxSteps := 2000000) (disch := omega) [gd_in, gd_and, wr_i64, hrv, hB1, hd, setC_v hnf]
     exact k
   | some x =>
    have hlt := (List.getElem?_eq_some_iff.1 hx).1
    have hlt' : (i : Int) < l.length := by omega
    have hn := cellsQ_nth hx
    have wi : wr .i64 ((i : Int) + 1) = ((i + 1 : Nat) : Int) := wr_i64 (by omega) (by omega)
    have hr := hall i x hx
    have ra := hr x.a (by simp [Qd.ks])
    have rb := hr x.b (by simp [Qd.ks])
    have rc := hr x.c (by simp [Qd.ks])
    have rd := hr x.d (by simp [Qd.ks])
    obtain ⟨pa, pa1, pa2⟩ := lvH_at ht ho hi ra.1 ra.2
    obtain ⟨pb, pb1, pb2⟩ := lvH_at ht ho hi rb.1 rb.2
    obtain ⟨pc, pc1, pc2⟩ := lvH_at ht ho hi rc.1 rc.2
    obtain ⟨pd, pd1, pd2⟩ := lvH_at ht ho hi rd.1 rd.2
    have w1 : wr .i64 (1 + 1) = 2 := by decide
    have w2 : wr .i64 (2 + 1) = 3 := by decide
    have w3 : wr .i64 (3 + 1) = 4 := by decide
    have hno : ¬ eqL s (levs s (l.take i)) x → Q (.m (.i .i64 4)) H := q4 i x hx
    have hlo := lvA_0 (s := s) (l.take i) x.a
    have hhi := lvA_le (s := s) l i x.a
    have wa : wr .i64 (lvA s (levs s (l.take i)) x.a + 1) = lvA s (levs s (l.take i)) x.a + 1 := wr_i64 (by omega) (by omega)
    have hLl : (List.replicate t (0 : Int) ++ levs s (l.take i)).length = t + i := by rw [List.length_append, List.length_replicate, levs_len, List.length_take]; omega
    obtain ⟨o1, H3, p1, p2, p3⟩ := lvH_push ho (by rw [hLl]; omega) (by omega) (lvA s (levs s (l.take i)) x.a + 1)
    have htk : levs s (l.take (i + 1)) = levs s (l.take i) ++ [lvA s (levs s (l.take i)) x.a + 1] := by
     rw [← levs_snoc]
     congr 1
     rw [List.take_add_one, hx]
     rfl
    rw [List.append_assoc, ← htk] at p3
    simp (maxSteps := 2000000) (disch := omega) [gd_in, gd_and, wr_i64, hrv, hB1, hlt, hlt', hn, pa1, pa2, setC_v hnf]
    unfold c7_B1
    simp (maxSteps := 2000000) (disch := omega) [gd_in, gd_and, wr_i64, pa1, pa2, w1, w2, w3, setC_v hnf]
    unfold c7_B1
    by_cases e1 : lvA s (levs s (l.take i)) x.b = lvA s (levs s (l.take i)) x.a
    rotate_left
    ·have k := hno fun h => e1 (h x.b (by simp [Qd.ks]))
     simp (maxSteps := 2000000) (disch := omega) [gd_in, gd_and, wr_i64, pb1, pb2, e1, w1, w2, w3, setC_v hnf]
     exact k
    simp (maxSteps := 2000000) (disch := omega) [gd_in, gd_and, wr_i64, pb1, pb2, e1, w1, w2, w3, setC_v hnf]
    unfold c7_B1
    by_cases e2 : lvA s (levs s (l.take i)) x.c = lvA s (levs s (l.take i)) x.a
    rotate_left
    ·have k := hno fun h => e2 (h x.c (by simp [Qd.ks]))
     simp (maxSteps := 2000000) (disch := omega) [gd_in, gd_and, wr_i64, pc1, pc2, e2, w1, w2, w3, setC_v hnf]
     exact k
    simp (maxSteps := 2000000) (disch := omega) [gd_in, gd_and, wr_i64, pc1, pc2, e2, w1, w2, w3, setC_v hnf]
    unfold c7_B1
    by_cases e3 : lvA s (levs s (l.take i)) x.d = lvA s (levs s (l.take i)) x.a
    rotate_left
    ·have k := hno fun h => e3 (h x.d (by simp [Qd.ks]))
     simp (maxSteps := 2000000) (disch := omega) [gd_in, gd_and, wr_i64, pd1, pd2, e3, w1, w2, w3, setC_v hnf]
     exact k
    simp (maxSteps := 2000000) (disch := omega) [gd_in, gd_and, wr_i64, pd1, pd2, e3, w1, w2, w3, setC_v hnf]
    unfold c7_B1
    have k := fun dp' B' => ih (i + 1) (by omega) o1 dp' B' H3 (by omega)
    simp (maxSteps := 2000000) (disch := omega) [gd_in, gd_and, wr_i64, p1, p2, wa, wi, setC_v hnf, setC_v p2, -Int.natCast_add]
    refine k _ _ (by simpa using hB1) (fun j y hj hy => ?_) ?_ p3
    ·by_cases hji : j < i
     ·have := hin j y hji hy
      exact ⟨this.1, by omega⟩
     ·have : j = i := by omega
      subst this
      rw [hx] at hy
      cases hy
      refine ⟨fun k hk => ?_, by omega⟩
      simp only [Qd.ks, List.mem_cons, List.not_mem_nil, or_false] at hk
      rcases hk with rfl | rfl | rfl | rfl
      ·rfl
      ·exact e1
      ·exact e2
      ·exact e3
    ·by_cases hge : lvA s (levs s (l.take i)) x.a + 1 ≤ dp
     ·rw [show max dp (lvA s (levs s (l.take i)) x.a + 1) = dp from by omega]
      exact hdp
     ·exact .inr ⟨i, x, hx, by omega⟩
  | some x =>
   have hlt := (List.getElem?_eq_some_iff.1 hx).1
   have hlt' : (i : Int) < l.length := by omega
   have hn := cellsQ_nth hx
   have wi : wr .i64 ((i : Int) + 1) = ((i + 1 : Nat) : Int) := wr_i64 (by omega) (by omega)
   have ws : wr .i64 (s + (i : Int)) = s + (i : Int) := wr_i64 (by omega) (by omega)
   have w4 : writeR 1 [[V.m (.i .i64 0)], [.m (.i .i64 0)], [.m (.i .i64 0)], [.m (.i .i64 0)]] 0 0 [.m (.i .i64 x.a), .m (.i .i64 x.b), .m (.i .i64 x.c), .m (.i .i64 x.d)] = some [[.m (.i .i64 x.a)], [.m (.i .i64 x.b)], [.m (.i .i64 x.c)], [.m (.i .i64 x.d)]] := rfl
   obtain ⟨mi, hmi, gm1⟩ := min4 x.a x.b x.c x.d []
   obtain ⟨ma, hma, gm2⟩ := max4 x.a x.b x.c x.d []
   have g1 := kids_call (H1 := H1) rfl rfl gm1
   have g2 := kids_call (H1 := H1) rfl rfl gm2
   have hir := inR_iff (s := s) (i := i) (x := x)
   rw [← hmi, ← hma] at hir
   by_cases c1 : mi < 0
   ·have k := q3 i x hx (fun h => by have := (hir.1 h).1; omega)
    simp (maxSteps := 2000000) (disch := omega) [gd_in, gd_and, wr_i64, gcall_cx, hrv, hB1, hlt, hlt', hn, ws, w4, nth_mid, setEl_mid, cl g1, c1]
    exact k
   by_cases c2 : s + (i : Int) ≤ ma
   ·have k := q3 i x hx (fun h => by have := (hir.1 h).2; omega)
    simp (maxSteps := 2000000) (disch := omega) [gd_in, gd_and, wr_i64, gcall_cx, hrv, hB1, hlt, hlt', hn, ws, w4, nth_mid, setEl_mid, cl g1, cl g2, c1, c2]
    exact k
   have k := fun B' H' => ih (i + 1) (by omega) B' H' (by omega)
   simp (maxSteps := 2000000) (disch := omega) [gd_in, gd_and, wr_i64, gcall_cx, hrv, hB1, hlt, hlt', hn, ws, w4, nth_mid, setEl_mid, cl g1, cl g2, c1, c2, wi, -Int.natCast_add]
   exact k _ _ hB1 (fun j y hj hy => by
    by_cases hji : j < i
    ·exact hin j y hji hy
    ·have : j = i := by omega
     subst this
     rw [hx] at hy
     cases hy
     exact hir.2 ⟨by omega, by omega⟩)
 obtain ⟨x, H', h1, rfl, rfl⟩ := key
 exact h1
end Go.Mx.Tryz
