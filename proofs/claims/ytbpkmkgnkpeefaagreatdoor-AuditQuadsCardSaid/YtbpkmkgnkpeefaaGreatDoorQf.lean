/- Contents of stores of quadtrees: Quads of the audit's reference (printed by a program of my own). -/
import Derived.Test.YtbpkmkgnkpeefaaGreatDoorQe
set_option linter.unusedSimpArgs false
set_option linter.unusedVariables false
set_option linter.unusedSectionVars false
set_option maxRecDepth 100000
namespace Go.Mx.Tryz
open Go.Lib Go.Proofs

theorem levs_le {s : Int} (l : List Qd) : ∀ n, ∀ y, y ∈ levs s (l.take n) → y ≤ n := by
 intro n
 induction n with
 | zero => intro y hy; simp [levs] at hy
 | succ n ih =>
  intro y hy
  cases hx : l[n]? with
  | none =>
   rw [List.take_of_length_le (by have := List.getElem?_eq_none_iff.1 hx; omega)] at hy
   rw [List.take_of_length_le (by have := List.getElem?_eq_none_iff.1 hx; omega)] at ih
   have := ih y hy
   omega
  | some x =>
   rw [List.take_add_one, hx] at hy
   have hy : y ∈ levs s (l.take n ++ [x]) := hy
   rw [levs_snoc] at hy
   rcases List.mem_append.1 hy with hy | hy
   ·have := ih y hy
    omega
   ·rw [List.mem_singleton.1 hy]
    unfold lvA
    split
    ·omega
    ·rw [List.getD_eq_getElem?_getD]
     cases hz : (levs s (l.take n))[(x.a - s).toNat]? with
     | none => simp; omega
     | some z =>
      have := ih z (List.mem_of_getElem? hz)
      simp
      omega
theorem lvA_le {s : Int} (l : List Qd) (n : Nat) (k : Int) : lvA s (levs s (l.take n)) k ≤ n := by
 unfold lvA
 split
 ·omega
 ·rw [List.getD_eq_getElem?_getD]
  cases hz : (levs s (l.take n))[(k - s).toNat]? with
  | none => simp
  | some z => exact levs_le l n z (List.mem_of_getElem? hz)
theorem levs_get {s : Int} {l : List Qd} {j : Nat} {x : Qd} (hx : l[j]? = some x) : (levs s l)[j]? = some (lvA s (levs s (l.take j)) x.a + 1) := by
 have hjl := (List.getElem?_eq_some_iff.1 hx).1
 have e2 : levs s (l.take (j + 1)) = levs s (l.take j) ++ [lvA s (levs s (l.take j)) x.a + 1] := by
  rw [← levs_snoc]
  congr 1
  rw [List.take_add_one, hx]
  rfl
 have e3 : (levs s l)[j]? = (levs s (l.take (j + 1)))[j]? := by rw [← levs_take, List.getElem?_take, if_pos (by omega)]
 have hlt : (levs s (l.take j)).length = j := by rw [levs_len, List.length_take]; omega
 rw [e3, e2, List.getElem?_append_right (by omega), hlt, Nat.sub_self]
 rfl
theorem numA_rd {acc : List Int} {o : V} {H : Hp} (h : NumA acc o H) {i : Nat} {y : Int} (hx : acc[i]? = some y) : ∃ p, pureX (.ixa 1) [o, .m (.i .i64 (i : Int))] = some p ∧ ∀ B, readX ⟨B, H⟩ (.ld false 1) [p] = some (.m (.i .i64 y)) := by
 have hlt := (List.getElem?_eq_some_iff.1 hx).1
 rcases h with ⟨rfl, rfl, rfl⟩ | ⟨_, rfl, rfl⟩
 ·cases hx
 ·have hn : nth (rowsI acc) i = some [.m (.i .i64 y)] := by rw [nth_get]; simp [rowsI, hx]
  refine ⟨.pt 0 acc.length i 0, ?_, fun B => ?_⟩
  ·simp (maxSteps := 2000000) (disch := omega) [gd_in, gd_and, wr_i64, hlt, show (i : Int) < acc.length from by omega]
  ·simp (maxSteps := 2000000) (disch := omega) [gd_in, gd_and, wr_i64, hn]
theorem numA_len {acc : List Int} {o : V} {H : Hp} (h : NumA acc o H) : pureX (.len false) [o] = some (.m (.i .i64 (acc.length : Nat))) := by
 rcases h with ⟨rfl, rfl, rfl⟩ | ⟨_, rfl, rfl⟩ <;> rfl
set_option maxHeartbeats 8000000 in
theorem quads_58 {v : I} {s : Int} {l : List Qd} (hv : IsSl v (cellsQ l)) (hl : l.length ≤ 100000) (H : Hp) : Gives G 8 [.m (.ag [.i .i64 s, v])] H (.m (.i .i64 (numQ s l))) H := by
 have hrv := hv.rules
 simp only [cellsQ_len] at hrv
 have hv1 := isSl_q hv
 have key : ∃ x H', Gives G 8 [.m (.ag [.i .i64 s, v])] H x H' ∧ (H' = H ∧ x = .m (.i .i64 (numQ s l))) := by
  refine gives_of_ret ?_
  refine ret_pur rfl rfl rfl rfl rfl ?_
  generalize hQ : (fun (x : V) (H' : Hp) => H' = H ∧ x = .m (.i .i64 (numQ s l))) = Q
  have qk : ∀ b, numQ s l = b → Q (.m (.i .i64 b)) H := fun b hh => by rw [← hQ, hh]; exact ⟨rfl, rfl⟩
  clear hQ
  by_cases h2 : s < 2
  ·have k := qk 1 (if_pos (.inl h2))
   simp (maxSteps := 2000000) (disch := omega) [gd_in, gd_and, wr_i64, hv1, hrv, h2]
   exact k
  by_cases h8 : 8 < s
  ·have k := qk 1 (if_pos (.inr h8))
   simp (maxSteps := 2000000) (disch := omega) [gd_in, gd_and, wr_i64, hv1, hrv, h2, h8]
   exact k
  have hl3 : ¬ 100000 < (l.length : Int) := by omega
  have hl4 : ¬ 100000 < l.length := by omega
  have eN : numQ s l = if allQ l (fun i x => decide (inR s i x)) = false then 3
   else if allQ l (fun i x => decide (eqL s (levs s (l.take i)) x)) = false then 4
   else if allQ l (fun i x => decide (lvA s (levs s (l.take i)) x.a < 256)) = false then 5
   else if allQ l (fun i x => decide (¬ x ∈ l.take i)) = false then 6 else 0 := by unfold numQ; rw [if_neg (by omega), if_neg hl4]
  have q3 : ∀ i x, l[i]? = some x → ¬ inR s i x → Q (.m (.i .i64 3)) H := fun i x hx hn => qk 3 (by
   rw [eN, if_pos]
   rw [← Bool.not_eq_true, allQ_iff]
   intro h
   exact hn (of_decide_eq_true (h i x hx)))
  simp (maxSteps := 2000000) (disch := omega) [gd_in, gd_and, wr_i64, hv1, hrv, h2, h8, hl3, hl4]
  refine (?key : ∀ (i : Nat) (B : List (Nat × List V)), i ≤ l.length → getB B 1 = some [.m (.i .i64 s), .m v] → (∀ j x, j < i → l[j]? = some x → inR s j x) → Run G c8_B1 (S8_1 (.fa 1 0) (.m (.i .i64 (i : Int))) B []) _) 0 _ (Nat.zero_le _) rfl (fun j x hj => by omega)
  refine indM (fun i : Nat => l.length - i) fun i ih B hi hB1 hin => ?_
  unfold c8_B1
  cases hx : l[i]? with
  | none =>
   have : i = l.length := by have := List.getElem?_eq_none_iff.1 hx; omega
   subst this
   have hall : ∀ j x, l[j]? = some x → inR s j x := fun j x hj => hin j x (List.getElem?_eq_some_iff.1 hj).1 hj
   clear ih hin hi hx
   have a3 : allQ l (fun i x => decide (inR s i x)) = true := allQ_iff.2 fun i x hx => decide_eq_true (hall i x hx)
   rw [a3, if_neg (by decide)] at eN
   clear q3
   have q4 : ∀ i x, l[i]? = some x → ¬ eqL s (levs s (l.take i)) x → Q (.m (.i .i64 4)) H := fun i x hx hn => qk 4 (by
    rw [eN, if_pos]
    rw [← Bool.not_eq_true, allQ_iff]
    intro h
    exact hn (of_decide_eq_true (h i x hx)))
   simp (maxSteps := 2000000) (disch := omega) [gd_in, gd_and, wr_i64, hrv, hB1]
   refine (?key2 : ∀ (i : Nat) (o : V) (B : List (Nat × List V)) (H1 : Hp), i ≤ l.length → getB B 1 = some [.m (.i .i64 s), .m v] → (∀ j x, j < i → l[j]? = some x → eqL s (levs s (l.take j)) x) → NumA (levs s (l.take i)) o H1 → Run G c8_B3 (S8_3 (.fa 1 0) o (.m (.i .i64 (i : Int))) B H1) _) 0 _ _ _ (Nat.zero_le _) hB1 (fun j x hj => by omega) (.inl ⟨rfl, rfl, rfl⟩)
   clear hB1 B
   refine indM (fun i : Nat => l.length - i) fun i ih o B H1 hi hB1 hin ho => ?_
   unfold c8_B3
   have hnf := numA_nf ho
   cases hx : l[i]? with
   | none =>
    have : i = l.length := by have := List.getElem?_eq_none_iff.1 hx; omega
    subst this
    have hall2 : ∀ j x, l[j]? = some x → eqL s (levs s (l.take j)) x := fun j x hj => hin j x (List.getElem?_eq_some_iff.1 hj).1 hj
    rw [List.take_length] at ho
    clear ih hin hi hx q4
    have a4 : allQ l (fun i x => decide (eqL s (levs s (l.take i)) x)) = true := allQ_iff.2 fun i x hx => decide_eq_true (hall2 i x hx)
    rw [a4, if_neg (by decide)] at eN
    have hlen := numA_len ho
    rw [levs_len] at hlen
    simp (maxSteps := 2000000) (disch := omega) [gd_in, gd_and, wr_i64, hrv, hB1, setC_v hnf]
    refine (?key3 : ∀ (i : Nat) (B : List (Nat × List V)), i ≤ l.length → getB B 1 = some [.m (.i .i64 s), .m v] → (∀ j x, j < i → l[j]? = some x → lvA s (levs s (l.take j)) x.a < 256) → Run G c8_B4 (S8_4 (.fa 1 0) o (.m (.i .i64 (i : Int))) B H1) _) 0 _ (Nat.zero_le _) hB1 (fun j x hj => by omega)
    clear hB1 B
    refine indM (fun i : Nat => l.length - i) fun i ih B hi hB1 hin => ?_
    unfold c8_B4
    cases hx : l[i]? with
    | none =>
     have : i = l.length := by have := List.getElem?_eq_none_iff.1 hx; omega
     subst this
     simp (maxSteps := 2000000) (disch := omega) [gd_in, gd_and, wr_i64, hrv, hB1, hlen, setC_v hnf]
     have a5 : allQ l (fun i x => decide (lvA s (levs s (l.take i)) x.a < 256)) = true := allQ_iff.2 fun i x hx => decide_eq_true (hin i x (List.getElem?_eq_some_iff.1 hx).1 hx)
     rw [a5, if_neg (by decide)] at eN
     clear ih hin hi hx
     refine (?key4 : ∀ (i : Nat) (B : List (Nat × List V)), i ≤ l.length → getB B 1 = some [.m (.i .i64 s), .m v] → (∀ j x, j < i → l[j]? = some x → ¬ x ∈ l.take j) → Run G c8_B6 (S8_6 (.fa 1 0) (.m (.i .i64 (i : Int))) B H1) _) 0 _ (Nat.zero_le _) hB1 (fun j x hj => by omega)
     clear hB1 B
     refine indM (fun i : Nat => l.length - i) fun i ih B hi hB1 hin => ?_
     unfold c8_B6
     cases hx : l[i]? with
     | none =>
      have : i = l.length := by have := List.getElem?_eq_none_iff.1 hx; omega
      subst this
      have a6 : allQ l (fun i x => decide (¬ x ∈ l.take i)) = true := allQ_iff.2 fun i x hx => decide_eq_true (hin i x (List.getElem?_eq_some_iff.1 hx).1 hx)
      have k := qk 0 (by rw [eN, if_neg (by rw [a6]; decide)])
      simp (maxSteps := 2000000) (disch := omega) [gd_in, gd_and, wr_i64, hrv, hB1]
      exact k
     | some x =>
      have hlt := (List.getElem?_eq_some_iff.1 hx).1
      have hlt' : (i : Int) < l.length := by omega
      have hn := cellsQ_nth hx
      have wi : wr .i64 ((i : Int) + 1) = ((i + 1 : Nat) : Int) := wr_i64 (by omega) (by omega)
      simp (maxSteps := 2000000) (disch := omega) [gd_in, gd_and, wr_i64, hrv, hB1, hlt, hlt']
      refine (?key5 : ∀ (m : Nat) (B : List (Nat × List V)), m ≤ i → getB B 1 = some [.m (.i .i64 s), .m v] → ¬ x ∈ l.take m → Run G c8_B5 (S8_5 (.fa 1 0) (.m (.i .i64 (i : Int))) (.m (.i .i64 (m : Int))) B H1) _) 0 _ (Nat.zero_le _) hB1 (by simp)
      clear hB1 B
      refine indM (fun m : Nat => i - m) fun m ihm B hm hB1 hno => ?_
      unfold c8_B5
      by_cases hmi : m < i
      ·have hmi2 : (m : Int) < i := by omega
       obtain ⟨y, hy⟩ : ∃ y, l[m]? = some y := ⟨_, List.getElem?_eq_getElem (by omega)⟩
       have hnm := cellsQ_nth hy
       have hml : m < l.length := by omega
       have hml2 : (m : Int) < l.length := by omega
       have wm : wr .i64 ((m : Int) + 1) = ((m + 1 : Nat) : Int) := wr_i64 (by omega) (by omega)
       by_cases hxy : x = y
       ·subst hxy
        have k := qk 6 (by
         rw [eN, if_pos]
         rw [← Bool.not_eq_true, allQ_iff]
         intro h
         refine of_decide_eq_true (h i x hx) ?_
         exact List.mem_of_getElem? (i := m) (by rw [List.getElem?_take, if_pos hmi]; exact hy))
        simp (maxSteps := 2000000) (disch := omega) [gd_in, gd_and, wr_i64, hrv, hB1, hlt, hlt', hn, hmi, hmi2, hml, hml2, hnm]
        exact k
       ·have hd : (decide (x.a = y.a) && (decide (x.b = y.b) && (decide (x.c = y.c) && decide (x.d = y.d)))) = false := by
         have hne : ¬ (x.a = y.a ∧ x.b = y.b ∧ x.c = y.c ∧ x.d = y.d) := fun ⟨h1, h2, h3, h4⟩ => hxy (by cases x; cases y; simp_all)
         simpa [← Bool.not_eq_true] using hne
        have k := ihm (m + 1) (by omega) B (by omega) hB1 (by
         rw [List.take_add_one, hy]
         intro hm
         rcases List.mem_append.1 hm with hm | hm
         ·exact hno hm
         ·exact hxy (List.mem_singleton.1 (show x ∈ [y] from hm)))
        simp (maxSteps := 2000000) (disch := omega) [gd_in, gd_and, wr_i64, hrv, hB1, hlt, hlt', hn, hmi, hmi2, hml, hml2, hnm, hd, wm, -Int.natCast_add]
        exact k
      ·have : m = i := by omega
       subst this
       have k := fun B' => ih (m + 1) (by omega) B' (by omega)
       simp (maxSteps := 2000000) (disch := omega) [gd_in, gd_and, wr_i64, hrv, hB1, wi, -Int.natCast_add]
       exact k _ hB1 (fun j y hj hy => by
        by_cases hji : j < m
        ·exact hin j y hji hy
        ·have : j = m := by omega
         subst this
         rw [hx] at hy
         cases hy
         exact hno)
    | some x =>
     have hlt := (List.getElem?_eq_some_iff.1 hx).1
     have hlt' : (i : Int) < l.length := by omega
     have wi : wr .i64 ((i : Int) + 1) = ((i + 1 : Nat) : Int) := wr_i64 (by omega) (by omega)
     obtain ⟨pt, r1, r2⟩ := numA_rd ho (levs_get hx)
     by_cases hb : 256 < lvA s (levs s (l.take i)) x.a + 1
     ·have k := qk 5 (by
       rw [eN, if_pos]
       rw [← Bool.not_eq_true, allQ_iff]
       intro h
       have := of_decide_eq_true (h i x hx)
       omega)
      simp (maxSteps := 2000000) (disch := omega) [gd_in, gd_and, wr_i64, hrv, hB1, hlen, hlt, hlt', r1, r2, hb, setC_v hnf]
      exact k
     ·have k := fun B' => ih (i + 1) (by omega) B' (by omega)
      simp (maxSteps := 2000000) (disch := omega) [gd_in, gd_and, wr_i64, hrv, hB1, hlen, hlt, hlt', r1, r2, hb, wi, setC_v hnf, -Int.natCast_add]
      exact k _ hB1 (fun j y hj hy => by
       by_cases hji : j < i
       ·exact hin j y hji hy
       ·have : j = i := by omega
        subst this
        rw [hx] at hy
        cases hy
        omega)
   | some x =>
    have hlt := (List.getElem?_eq_some_iff.1 hx).1
    have hlt' : (i : Int) < l.length := by omega
    have hn := cellsQ_nth hx
    have wi : wr .i64 ((i : Int) + 1) = ((i + 1 : Nat) : Int) := wr_i64 (by omega) (by omega)
    have hlv : (levs s (l.take i)).length = i := by rw [levs_len, List.length_take]; omega
    have hix := hall i x hx
    have gl := fun k (h0 : 0 ≤ k) (h1 : k < s + (i : Int)) => numA_call3 (F := 26) (t0 := .ag [.i .i64 s, v]) (t2 := .i .i64 k) rfl rfl ho (fun w H hw => level_58 hv hw (by omega) (by omega) h0 (by omega) H) rfl
    have ia := hix x.a (by simp [Qd.ks])
    have ib := hix x.b (by simp [Qd.ks])
    have ic := hix x.c (by simp [Qd.ks])
    have id_ := hix x.d (by simp [Qd.ks])
    have ga := gl x.a ia.1 ia.2
    have gb := gl x.b ib.1 ib.2
    have gc := gl x.c ic.1 ic.2
    have gd4 := gl x.d id_.1 id_.2
    have lb1 := lvA_le (s := s) l i x.a
    have lb2 := lvA_0 (s := s) (l.take i) x.a
    have q5 := q4 i x hx
    have hsn : levs s (l.take (i + 1)) = levs s (l.take i) ++ [lvA s (levs s (l.take i)) x.a + 1] := by rw [← levs_snoc]; congr 1; rw [List.take_add_one, hx]; rfl
    have heq : eqL s (levs s (l.take i)) x ↔ lvA s (levs s (l.take i)) x.b = lvA s (levs s (l.take i)) x.a ∧ lvA s (levs s (l.take i)) x.c = lvA s (levs s (l.take i)) x.a ∧ lvA s (levs s (l.take i)) x.d = lvA s (levs s (l.take i)) x.a := by
     unfold eqL Qd.ks
     simp
    obtain ⟨o1, H2, hap, hn1, ho1⟩ := numA_push ho (by omega) (lvA s (levs s (l.take i)) x.a + 1)
    rw [← hsn] at ho1
    clear hsn
    generalize lvA s (levs s (l.take i)) x.a = A at *
    generalize lvA s (levs s (l.take i)) x.b = A2 at *
    generalize lvA s (levs s (l.take i)) x.c = A3 at *
    generalize lvA s (levs s (l.take i)) x.d = A4 at *
    have wA : wr .i64 (A + 1) = A + 1 := wr_i64 (by omega) (by omega)
    simp (maxSteps := 2000000) (disch := omega) [gd_in, gd_and, wr_i64, gcall_cx, hrv, hB1, hlt, hlt', hn, hv1, cl ga, setC_v hnf]
    unfold c8_B2
    by_cases b0 : A2 = A
    rotate_left
    ·have k := q5 (fun h => b0 (heq.1 h).1)
     simp (maxSteps := 2000000) (disch := omega) [gd_in, gd_and, wr_i64, gcall_cx, hrv, hB1, hlt, hlt', hn, hv1, cl gb, b0, setC_v hnf]
     exact k
    rw [b0] at gb
    simp (maxSteps := 2000000) (disch := omega) [gd_in, gd_and, wr_i64, gcall_cx, hrv, hB1, hlt, hlt', hn, hv1, cl gb, setC_v hnf]
    unfold c8_B2
    by_cases b1 : A3 = A
    rotate_left
    ·have k := q5 (fun h => b1 (heq.1 h).2.1)
     simp (maxSteps := 2000000) (disch := omega) [gd_in, gd_and, wr_i64, gcall_cx, hrv, hB1, hlt, hlt', hn, hv1, cl gc, b1, setC_v hnf]
     exact k
    rw [b1] at gc
    simp (maxSteps := 2000000) (disch := omega) [gd_in, gd_and, wr_i64, gcall_cx, hrv, hB1, hlt, hlt', hn, hv1, cl gc, setC_v hnf]
    unfold c8_B2
    by_cases b2 : A4 = A
    rotate_left
    ·have k := q5 (fun h => b2 (heq.1 h).2.2)
     simp (maxSteps := 2000000) (disch := omega) [gd_in, gd_and, wr_i64, gcall_cx, hrv, hB1, hlt, hlt', hn, hv1, cl gd4, b2, setC_v hnf]
     exact k
    rw [b2] at gd4
    simp (maxSteps := 2000000) (disch := omega) [gd_in, gd_and, wr_i64, gcall_cx, hrv, hB1, hlt, hlt', hn, hv1, cl gd4, setC_v hnf]
    unfold c8_B2
    have hgood := heq.2 ⟨b0, b1, b2⟩
    have k := fun B' => ih (i + 1) (by omega) o1 B' H2 (by omega)
    simp (maxSteps := 2000000) (disch := omega) [gd_in, gd_and, wr_i64, gcall_cx, hrv, hB1, wA, hap, wi, setC_v hnf, setC_v hn1, -Int.natCast_add]
    exact k _ hB1 (fun j y hj hy => by
     by_cases hji : j < i
     ·exact hin j y hji hy
     ·have : j = i := by omega
      subst this
      rw [hx] at hy
      cases hy
      exact hgood) ho1
  | some x =>
   have hlt := (List.getElem?_eq_some_iff.1 hx).1
   have hlt' : (i : Int) < l.length := by omega
   have hn := cellsQ_nth hx
   have wi : wr .i64 ((i : Int) + 1) = ((i + 1 : Nat) : Int) := wr_i64 (by omega) (by omega)
   have ws : wr .i64 (s + (i : Int)) = s + (i : Int) := wr_i64 (by omega) (by omega)
   simp (maxSteps := 2000000) (disch := omega) [gd_in, gd_and, wr_i64, hrv, hB1, hlt, hlt']
   unfold c8_B0
   by_cases na : x.a < 0
   ·have k := q3 i x hx (fun h => by have := h x.a (by simp [Qd.ks]); omega)
    simp (maxSteps := 2000000) (disch := omega) [gd_in, gd_and, wr_i64, hrv, hB1, hlt, hlt', hn, na]
    exact k
   by_cases ma : s + (i : Int) ≤ x.a
   ·have k := q3 i x hx (fun h => by have := h x.a (by simp [Qd.ks]); omega)
    simp (maxSteps := 2000000) (disch := omega) [gd_in, gd_and, wr_i64, hrv, hB1, hlt, hlt', hn, na, ws, ma]
    exact k
   simp (maxSteps := 2000000) (disch := omega) [gd_in, gd_and, wr_i64, hrv, hB1, hlt, hlt', hn, na, ws, ma]
   unfold c8_B0
   by_cases nb : x.b < 0
   ·have k := q3 i x hx (fun h => by have := h x.b (by simp [Qd.ks]); omega)
    simp (maxSteps := 2000000) (disch := omega) [gd_in, gd_and, wr_i64, hrv, hB1, hlt, hlt', hn, nb]
    exact k
   by_cases mb : s + (i : Int) ≤ x.b
   ·have k := q3 i x hx (fun h => by have := h x.b (by simp [Qd.ks]); omega)
    simp (maxSteps := 2000000) (disch := omega) [gd_in, gd_and, wr_i64, hrv, hB1, hlt, hlt', hn, nb, ws, mb]
    exact k
   simp (maxSteps := 2000000) (disch := omega) [gd_in, gd_and, wr_i64, hrv, hB1, hlt, hlt', hn, nb, ws, mb]
   unfold c8_B0
   by_cases nc : x.c < 0
   ·have k := q3 i x hx (fun h => by have := h x.c (by simp [Qd.ks]); omega)
    simp (maxSteps := 2000000) (disch := omega) [gd_in, gd_and, wr_i64, hrv, hB1, hlt, hlt', hn, nc]
    exact k
   by_cases mc : s + (i : Int) ≤ x.c
   ·have k := q3 i x hx (fun h => by have := h x.c (by simp [Qd.ks]); omega)
    simp (maxSteps := 2000000) (disch := omega) [gd_in, gd_and, wr_i64, hrv, hB1, hlt, hlt', hn, nc, ws, mc]
    exact k
   simp (maxSteps := 2000000) (disch := omega) [gd_in, gd_and, wr_i64, hrv, hB1, hlt, hlt', hn, nc, ws, mc]
   unfold c8_B0
   by_cases nd : x.d < 0
   ·have k := q3 i x hx (fun h => by have := h x.d (by simp [Qd.ks]); omega)
    simp (maxSteps := 2000000) (disch := omega) [gd_in, gd_and, wr_i64, hrv, hB1, hlt, hlt', hn, nd]
    exact k
   by_cases md : s + (i : Int) ≤ x.d
   ·have k := q3 i x hx (fun h => by have := h x.d (by simp [Qd.ks]); omega)
    simp (maxSteps := 2000000) (disch := omega) [gd_in, gd_and, wr_i64, hrv, hB1, hlt, hlt', hn, nd, ws, md]
    exact k
   simp (maxSteps := 2000000) (disch := omega) [gd_in, gd_and, wr_i64, hrv, hB1, hlt, hlt', hn, nd, ws, md]
   unfold c8_B0
   have hinx : inR s i x := fun k hk => by
    simp only [Qd.ks, List.mem_cons, List.not_mem_nil, or_false] at hk
    rcases hk with rfl | rfl | rfl | rfl <;> omega
   have k := fun B' => ih (i + 1) (by omega) B' (by omega)
   simp (maxSteps := 2000000) (disch := omega) [gd_in, gd_and, wr_i64, hrv, hB1, wi, -Int.natCast_add]
   exact k _ hB1 (fun j y hj hy => by
    by_cases hji : j < i
    ·exact hin j y hji hy
    ·have : j = i := by omega
     subst this
     rw [hx] at hy
     cases hy
     exact hinx)
 obtain ⟨x, H', h1, rfl, rfl⟩ := key
 exact h1
end Go.Mx.Tryz
