/- WolframParses: both Parse, and the law. -/
import Derived.Test.YtaomjcmiaiokcaaDoorWq
import Derived.Test.YtaomjcmiaiokcaaDoorLaw
import Derived.Test.YtaomjcmiaiokcaaDoorAwake
set_option linter.unusedSimpArgs false
set_option linter.unusedVariables false
set_option linter.unusedSectionVars false
set_option maxRecDepth 100000
namespace Go.Mx.Tryd
open Go.Lib Go.Proofs

def resW (r : Int × Int × Bool × Int) : V := .tu [.m (.i .i64 r.1), .m (.i .i64 r.2.1), .m (.b r.2.2.1), .m (.i .i64 r.2.2.2)]
def pairW (a b : List Nat) : Int × Int × Bool × Int :=
  if wOk a = true ∧ wOk b = true then (if dval 0 a < 9223372036854775808 ∧ dval 0 b < 9223372036854775808 then (if dErr (dval 0 b : Nat) (dval 0 a : Nat) = 0 then ((dval 0 b : Nat), (dval 0 a : Nat), true, 0) else (0, 0, false, 5)) else (0, 0, false, 5)) else (0, 0, false, 15)
def pW (s : List Nat) : Int × Int × Bool × Int :=
  if s.take 1 = [87] then (if wOk (s.drop 1) = true then (if dval 0 (s.drop 1) < 9223372036854775808 ∧ dval 0 (s.drop 1) ≤ 255 then (2, (dval 0 (s.drop 1) : Nat), false, 0) else (0, 0, false, 5)) else (0, 0, false, 15))
  else if s.take 1 = [84] then (match tlB 47 (s.drop 1) with
    | none => (0, 0, false, 15)
    | some b => pairW (hdB 47 (s.drop 1)) b)
  else (0, 0, false, 15)
theorem num_any {t : List Nat} (hl : t.length ≤ 100000) (hb : ∀ c, c ∈ t → c < 256) : ∃ (x : Int) (ok ft : Bool), ok = wOk t ∧ (ok = true → ft = decide (dval 0 t < 9223372036854775808)) ∧ (ok = true → ft = true → x = (dval 0 t : Nat)) ∧ ∀ H, Gives G 29 [.m (.s t)] H (.tu [.m (.i .i64 x), .m (.b ok), .m (.b ft)]) H := by
  cases h : wOk t with
  | false => exact ⟨0, false, false, rfl, fun h => (by cases h), fun h => (by cases h), num_no hl hb h⟩
  | true =>
    obtain ⟨x, ft, h1, h2, h3⟩ := num_ok hl hb h
    exact ⟨x, true, ft, rfl, fun _ => h1, fun _ => h2, h3⟩
set_option maxHeartbeats 4000000 in
theorem parse10_s {s : List Nat} (hl : s.length ≤ 1000) (hb : ∀ c, c ∈ s → c < 256) (H : Hp) : Gives G 18 [.m (.s s)] H (resW (pW s)) H := by
  refine gives_pur rfl rfl rfl rfl rfl ?_
  have g87 := fun H => cpre_s s (by omega) 87 H
  have g84 := fun H => cpre_s s (by omega) 84 H
  have hdb : ∀ c, c ∈ s.drop 1 → c < 256 := fun c hc => hb c (List.mem_of_mem_drop hc)
  have hdl : (s.drop 1).length ≤ 1000 := by rw [List.length_drop]; omega
  have three : ∀ t : List Nat, t.length ≤ 1000 → (∀ c, c ∈ t → c < 256) → ∃ (x y : Int) (o1 o2 f1 f2 : Bool), (o1 = wOk (hdB 47 t)) ∧ (o2 = wOk ((tlB 47 t).getD [])) ∧ (o1 = true → f1 = decide (dval 0 (hdB 47 t) < 9223372036854775808) ∧ (f1 = true → x = (dval 0 (hdB 47 t) : Nat))) ∧ (o2 = true → f2 = decide (dval 0 ((tlB 47 t).getD []) < 9223372036854775808) ∧ (f2 = true → y = (dval 0 ((tlB 47 t).getD []) : Nat))) ∧
      (∀ H, Gives G 29 [.m (.s (hdB 47 t))] H (.tu [.m (.i .i64 x), .m (.b o1), .m (.b f1)]) H) ∧ (∀ H, Gives G 29 [.m (.s ((tlB 47 t).getD []))] H (.tu [.m (.i .i64 y), .m (.b o2), .m (.b f2)]) H) := fun t htl htb => by
    have h1 : (hdB 47 t).length ≤ t.length ∧ ((tlB 47 t).getD []).length ≤ t.length ∧ ∀ c, c ∈ (tlB 47 t).getD [] → c ∈ t := by
      cases h : tlB 47 t with
      | none => rw [tlB_none 47 t h]; exact ⟨Nat.le_refl _, by simp, fun c hc => by simp at hc⟩
      | some u => have := tlB_len h; exact ⟨by omega, by simp; omega, fun c hc => tlB_mem h c hc⟩
    obtain ⟨x, o1, f1, a1, a2, a3, a4⟩ := num_any (t := hdB 47 t) (by omega) (fun c hc => htb c (hdB_mem 47 t c hc))
    obtain ⟨y, o2, f2, b1, b2, b3, b4⟩ := num_any (t := (tlB 47 t).getD []) (by omega) (fun c hc => htb c (h1.2.2 c hc))
    exact ⟨x, y, o1, o2, f1, f2, a1, b1, fun h => ⟨a2 h, a3 h⟩, fun h => ⟨b2 h, b3 h⟩, a4, b4⟩
  generalize hres : pW s = res
  unfold pW at hres
  generalize s.drop 1 = t at *
  by_cases h87 : s.take 1 = [87]
  · rw [if_pos h87] at hres g87
    obtain ⟨x, ok, ft, k1, k2, k3, gn⟩ := num_any (t := t) (by omega) hdb
    cases ok with
    | false =>
      rw [if_neg (by rw [← k1]; simp)] at hres
      subst hres
      simp (maxSteps := 2000000) (disch := omega) [gd_in, gd_and, wr_i64, cl (g87 _), cl (gn _), resW]
    | true =>
      rw [if_pos k1.symm] at hres
      have hft := k2 rfl
      cases ft with
      | false =>
        rw [if_neg (by have := of_decide_eq_false hft.symm; omega)] at hres
        subst hres
        simp (maxSteps := 2000000) (disch := omega) [gd_in, gd_and, wr_i64, cl (g87 _), cl (gn _), resW]
      | true =>
        have hx := k3 rfl rfl
        have hd := of_decide_eq_true hft.symm
        subst hx
        by_cases h255 : dval 0 t ≤ 255
        · rw [if_pos ⟨hd, h255⟩] at hres
          subst hres
          have p : ¬ (255 : Int) < (dval 0 t : Nat) := by omega
          have p' : ¬ 255 < dval 0 t := by omega
          simp (maxSteps := 2000000) (disch := omega) [gd_in, gd_and, wr_i64, cl (g87 _), cl (gn _), p, p', resW]
        · rw [if_neg (by omega)] at hres
          subst hres
          have p : (255 : Int) < (dval 0 t : Nat) := by omega
          have p' : 255 < dval 0 t := by omega
          simp (maxSteps := 2000000) (disch := omega) [gd_in, gd_and, wr_i64, cl (g87 _), cl (gn _), p, p', resW]
  · rw [if_neg h87] at hres g87
    by_cases h84 : s.take 1 = [84]
    · rw [if_pos h84] at hres g84
      obtain ⟨x, y, o1, o2, f1, f2, a1, b1, a2, b2, ga, gb⟩ := three t hdl hdb
      have gc := fun H => cut_s t (by omega) 47 (by omega) H
      unfold cutT at gc
      cases ht : tlB 47 t with
      | none =>
        rw [ht] at hres gc gb
        subst hres
        simp only [Option.getD_none, Option.isSome_none] at gc gb
        simp (maxSteps := 2000000) (disch := omega) [gd_in, gd_and, wr_i64, cl (g87 _), cl (g84 _), cl (gc _), cl (ga _), cl (gb _), resW]
      | some u =>
        rw [ht] at hres gc gb b1 b2
        simp only [Option.getD_some, Option.isSome_some] at gc gb b1 b2 hres
        unfold pairW at hres
        cases o1 with
        | false =>
          rw [if_neg (by rw [← a1]; simp)] at hres
          subst hres
          simp (maxSteps := 2000000) (disch := omega) [gd_in, gd_and, wr_i64, cl (g87 _), cl (g84 _), cl (gc _), cl (ga _), cl (gb _), resW]
        | true =>
          cases o2 with
          | false =>
            rw [if_neg (by rw [← b1]; simp)] at hres
            subst hres
            simp (maxSteps := 2000000) (disch := omega) [gd_in, gd_and, wr_i64, cl (g87 _), cl (g84 _), cl (gc _), cl (ga _), cl (gb _), resW]
          | true =>
            rw [if_pos ⟨a1.symm, b1.symm⟩] at hres
            obtain ⟨a2, a3⟩ := a2 rfl
            obtain ⟨b2, b3⟩ := b2 rfl
            cases f1 with
            | false =>
              rw [if_neg (by have := of_decide_eq_false a2.symm; omega)] at hres
              subst hres
              simp (maxSteps := 2000000) (disch := omega) [gd_in, gd_and, wr_i64, cl (g87 _), cl (g84 _), cl (gc _), cl (ga _), cl (gb _), resW]
            | true =>
              cases f2 with
              | false =>
                rw [if_neg (by have := of_decide_eq_false b2.symm; omega)] at hres
                subst hres
                simp (maxSteps := 2000000) (disch := omega) [gd_in, gd_and, wr_i64, cl (g87 _), cl (g84 _), cl (gc _), cl (ga _), cl (gb _), resW]
              | true =>
                have h1 := of_decide_eq_true a2.symm
                have h2 := of_decide_eq_true b2.symm
                have hx := a3 rfl
                have hy := b3 rfl
                subst hx
                subst hy
                rw [if_pos ⟨h1, h2⟩] at hres
                obtain ⟨z, gd⟩ := digits_s (dval 0 u : Nat) (dval 0 (hdB 47 t) : Nat) (by omega) []
                generalize dErr (dval 0 u : Nat) (dval 0 (hdB 47 t) : Nat) = e at *
                by_cases he : e = 0
                · subst he
                  rw [if_pos rfl] at hres
                  subst hres
                  simp (maxSteps := 2000000) (disch := omega) [gd_in, gd_and, wr_i64, cl (g87 _), cl (g84 _), cl (gc _), cl (ga _), cl (gb _), cl gd, resW]
                · rw [if_neg he] at hres
                  subst hres
                  simp (maxSteps := 2000000) (disch := omega) [gd_in, gd_and, wr_i64, cl (g87 _), cl (g84 _), cl (gc _), cl (ga _), cl (gb _), cl gd, he, resW]
    · rw [if_neg h84] at hres g84
      subst hres
      obtain ⟨x, y, o1, o2, f1, f2, a1, b1, a2, b2, ga, gb⟩ := three s hl hb
      have gc := fun H => cut_s s (by omega) 47 (by omega) H
      unfold cutT at gc
      simp (maxSteps := 2000000) (disch := omega) [gd_in, gd_and, wr_i64, cl (g87 _), cl (g84 _), cl (gc _), cl (ga _), cl (gb _), resW]

/- The last '/'. -/
def la (s : List Nat) : Nat → Int
  | 0 => -1
  | i + 1 => if s[i]? = some 47 then (i : Int) else la s i
theorem la_or (s : List Nat) : ∀ i : Nat, (la s i = -1 ∧ ∀ j : Nat, j < i → s[j]? ≠ some 47) ∨ ∃ k : Nat, la s i = k ∧ k < i ∧ s[k]? = some 47 ∧ ∀ j : Nat, k < j → j < i → s[j]? ≠ some 47
  | 0 => .inl ⟨rfl, fun j hj => by omega⟩
  | i + 1 => by
    have e : la s (i + 1) = if s[i]? = some 47 then (i : Int) else la s i := rfl
    by_cases h : s[i]? = some 47
    · rw [if_pos h] at e
      exact .inr ⟨i, e, by omega, h, fun j h1 h2 => by omega⟩
    · rw [if_neg h] at e
      rw [e]
      rcases la_or s i with ⟨h1, h2⟩ | ⟨k, h1, h2, h3, h4⟩
      · refine .inl ⟨h1, fun j hj => ?_⟩
        by_cases hji : j = i
        · subst hji; exact h
        · exact h2 j (by omega)
      · refine .inr ⟨k, h1, by omega, h3, fun j hk hj => ?_⟩
        by_cases hji : j = i
        · subst hji; exact h
        · exact h4 j hk (by omega)
theorem la_loop (s : List Nat) (hl : s.length ≤ 1000) (K : K)
    (he : ∀ (B : List (Nat × List V)) (H : Hp), At' G (.ex 0) ⟨[(0, .m (.s s)), (8, .m (.i .i64 (la s s.length))), (9, .m (.i .i64 (s.length : Int))), (45, .m (.b false))], [], ⟨B, H⟩⟩ K) (B : List (Nat × List V)) (H : Hp) :
    Run G c19_B0 (S19_0 (.m (.s s)) (.m (.i .i64 (-1))) (.m (.i .i64 0)) B H) (.seq c19_L0 K) := by
  refine (?key : ∀ (i : Nat) (B : List (Nat × List V)) (H : Hp), i ≤ s.length → Run G c19_B0 (S19_0 (.m (.s s)) (.m (.i .i64 (la s i))) (.m (.i .i64 (i : Int))) B H) (.seq c19_L0 K)) 0 B H (Nat.zero_le _)
  refine indM (fun i : Nat => s.length - i) fun i ih B H hi => ?_
  unfold c19_B0
  cases hx : s[i]? with
  | none =>
    have : i = s.length := by have := List.getElem?_eq_none_iff.1 hx; omega
    subst this
    have k := he B H
    simp (maxSteps := 2000000) (disch := omega) [gd_in, gd_and, wr_i64, ]
    exact k
  | some x =>
    have hlt := (get_drop hx).1
    have hlt' : (i : Int) < s.length := by omega
    have hnx : nth s i = some x := by rw [nth_get]; exact hx
    have wi : wr .i64 ((i : Int) + 1) = (i : Int) + 1 := wr_i64 (by omega) (by omega)
    have k := ih (i + 1) (by omega) B H (by omega)
    have e : la s (i + 1) = if s[i]? = some 47 then (i : Int) else la s i := rfl
    by_cases h47 : x = 47
    · subst h47
      rw [if_pos hx] at e
      rw [e] at k
      simp [hlt', hlt, hnx, wi]
      exact k
    · have h47' : ¬ (x : Int) = 47 := by omega
      rw [if_neg (by rw [hx]; simpa using h47)] at e
      rw [e] at k
      simp [hlt', hlt, hnx, wi, h47']
      exact k
theorem sep_hd' (c : Nat) : ∀ (a r : List Nat), (∀ y, y ∈ a → y ≠ c) → hdB c (a ++ c :: r) = a ∧ tlB c (a ++ c :: r) = some r
  | [], r, _ => by
    have e1 : tlB c (c :: r) = if c = c then some r else tlB c r := rfl
    have e2 : hdB c (c :: r) = if c = c then [] else c :: hdB c r := rfl
    rw [if_pos rfl] at e1 e2
    exact ⟨e2, e1⟩
  | x :: t, r, h => by
    have hx := h x (by simp)
    obtain ⟨i1, i2⟩ := sep_hd' c t r fun y hy => h y (by simp [hy])
    have e1 : tlB c (x :: (t ++ c :: r)) = if x = c then some (t ++ c :: r) else tlB c (t ++ c :: r) := rfl
    have e2 : hdB c (x :: (t ++ c :: r)) = if x = c then [] else x :: hdB c (t ++ c :: r) := rfl
    rw [if_neg hx] at e1 e2
    exact ⟨by rw [List.cons_append, e2, i1], by rw [List.cons_append, e1, i2]⟩
theorem no_tl' (c : Nat) : ∀ (a : List Nat), (∀ y, y ∈ a → y ≠ c) → tlB c a = none
  | [], _ => rfl
  | x :: t, h => by
    have e1 : tlB c (x :: t) = if x = c then some t else tlB c t := rfl
    rw [e1, if_neg (h x (by simp)), no_tl' c t fun y hy => h y (by simp [hy])]
/-- At the last '/' as at the first, where the parts are numbers. -/
theorem last_first (a b : List Nat) (hb : ∀ y, y ∈ b → y ≠ 47) : (match tlB 47 (a ++ 47 :: b) with | none => ((0 : Int), (0 : Int), false, (15 : Int)) | some u => pairW (hdB 47 (a ++ 47 :: b)) u) = pairW a b := by
  by_cases h : 47 ∈ a
  · have h1 : pairW a b = (0, 0, false, 15) := by
      unfold pairW
      rw [if_neg (by rw [wOk_47 h]; simp)]
    rw [h1]
    obtain ⟨a1, a2, rfl⟩ := List.append_of_mem h
    -- the first one lies within a
    cases ht : tlB 47 ((a1 ++ 47 :: a2) ++ 47 :: b) with
    | none => rfl
    | some u =>
      have hs := tlB_some 47 _ _ ht
      have hno := hdB_no 47 ((a1 ++ 47 :: a2) ++ 47 :: b)
      have hu : 47 ∈ u := by
        have hc := congrArg (List.count 47) hs
        have h0 : List.count 47 (hdB 47 ((a1 ++ 47 :: a2) ++ 47 :: b)) = 0 := List.count_eq_zero.2 fun hm => hno 47 hm rfl
        simp only [List.count_append, List.count_cons_self] at hc
        rw [List.append_assoc, List.cons_append] at h0
        have : 0 < List.count 47 u := by
          simp only [List.append_assoc, List.cons_append] at hc
          omega
        exact List.count_pos_iff.1 this
      simp only
      unfold pairW
      rw [if_neg (by rw [wOk_47 hu]; simp)]
  · obtain ⟨h1, h2⟩ := sep_hd' 47 a b fun y hy e => h (e ▸ hy)
    rw [h1, h2]
set_option maxHeartbeats 4000000 in
theorem parse10_r {s : List Nat} (hl : s.length ≤ 1000) (hb : ∀ c, c ∈ s → c < 256) (H : Hp) : Gives G 19 [.m (.s s)] H (resW (pW s)) H := by
  refine gives_pur rfl rfl rfl rfl rfl ?_
  generalize hres : pW s = res
  -- what the tail behind the loop gives
  have tail87 : s.take 1 = [87] → wOk (s.drop 1) = false → res = (0, 0, false, 15) := fun h1 h2 => by
    rw [← hres]
    unfold pW
    rw [if_pos h1, if_neg (by rw [h2]; simp)]
  cases s with
  | nil =>
    have e : res = (0, 0, false, 15) := by rw [← hres]; rfl
    subst e
    simp (maxSteps := 2000000) (disch := omega) [gd_in, gd_and, wr_i64, gcall_cx]
    unfold c19_B0
    simp (maxSteps := 2000000) (disch := omega) [gd_in, gd_and, wr_i64, resW, gcall_cx]
  | cons a t =>
    have htb : ∀ c, c ∈ t → c < 256 := fun c hc => hb c (List.mem_cons_of_mem _ hc)
    have htl : t.length ≤ 1000 := by simp at hl; omega
    have p0 : (0 : Int) < (t.length : Int) + 1 := by omega
    have p1 : (1 : Int) ≤ (t.length : Int) + 1 := by omega
    have gN := fun H => numeral_r (t := t) (by omega) H
    by_cases h87 : a = 87 ∧ wOk t = true
    · obtain ⟨rfl, hw⟩ := h87
      rw [hw] at gN
      have gv := fun H => value_r (t := t) (by omega) (wOk_in hw).2 H
      unfold valV at gv
      have e : res = if dval 0 t < 9223372036854775808 ∧ dval 0 t ≤ 255 then ((2 : Int), ((dval 0 t : Nat) : Int), false, (0 : Int)) else (0, 0, false, 5) := by
        rw [← hres]
        unfold pW
        rw [if_pos (show List.take 1 (87 :: t) = [87] from rfl)]
        show (if wOk t = true then _ else _) = _
        rw [if_pos hw]
        rfl
      by_cases hd : dval 0 t < 9223372036854775808
      · rw [if_pos hd] at gv
        by_cases h255 : dval 0 t ≤ 255
        · rw [if_pos ⟨hd, h255⟩] at e
          subst e
          have p : ¬ (255 : Int) < (dval 0 t : Nat) := by omega
          have p' : ¬ 255 < dval 0 t := by omega
          simp (maxSteps := 2000000) (disch := omega) [gd_in, gd_and, wr_i64, p0, p1, cl (gN _), cl (gv _), gcall_cx, p, p', resW]
        · rw [if_neg (by omega)] at e
          subst e
          have p : (255 : Int) < (dval 0 t : Nat) := by omega
          have p' : 255 < dval 0 t := by omega
          simp (maxSteps := 2000000) (disch := omega) [gd_in, gd_and, wr_i64, p0, p1, cl (gN _), cl (gv _), gcall_cx, p, p', resW]
      · rw [if_neg hd] at gv
        rw [if_neg (by omega)] at e
        subst e
        simp (maxSteps := 2000000) (disch := omega) [gd_in, gd_and, wr_i64, p0, p1, cl (gN _), cl (gv _), gcall_cx, resW]
    · -- to the loop
      have first : ∀ (K : K), (∀ B H, At' G (.ex 0) ⟨[(0, .m (.s (a :: t))), (8, .m (.i .i64 (la (a :: t) (t.length + 1)))), (9, .m (.i .i64 ((t.length : Int) + 1))), (45, .m (.b false))], [], ⟨B, H⟩⟩ K) → ∀ B H, Run G c19_B0 (S19_0 (.m (.s (a :: t))) (.m (.i .i64 (-1))) (.m (.i .i64 0)) B H) (.seq c19_L0 K) := fun K he B H => la_loop (a :: t) hl K he B H
      have hcase : (¬ a = 84 ∧ res = (0, 0, false, 15)) ∨ (a = 84 ∧ res = match tlB 47 t with | none => (0, 0, false, 15) | some b => pairW (hdB 47 t) b) := by
        by_cases h1 : a = 87
        · left
          subst h1
          refine ⟨by omega, tail87 rfl ?_⟩
          cases hw : wOk t with
          | false => exact hw
          | true => exact absurd ⟨rfl, hw⟩ h87
        · by_cases h2 : a = 84
          · right
            subst h2
            refine ⟨rfl, ?_⟩
            rw [← hres]
            unfold pW
            rw [if_neg (by simp), if_pos (show List.take 1 (84 :: t) = [84] from rfl)]
            rfl
          · left
            refine ⟨h2, ?_⟩
            rw [← hres]
            unfold pW
            rw [if_neg (by simpa using h1), if_neg (by simpa using h2)]
      have hla := la_or (a :: t) (t.length + 1)
      -- what stands behind the loop, by where the last '/' is
      have hlast : (res = (0, 0, false, 15) ∧ (la (a :: t) (t.length + 1) < 1 ∨ ¬ a = 84)) ∨ (∃ A B : List Nat, a = 84 ∧ t = A ++ 47 :: B ∧ la (a :: t) (t.length + 1) = (A.length : Int) + 1 ∧ res = pairW A B) := by
        rcases hla with ⟨h1, h2⟩ | ⟨k, h1, h2, h3, h4⟩
        · left
          refine ⟨?_, .inl (by omega)⟩
          rcases hcase with ⟨_, h⟩ | ⟨_, h⟩
          · exact h
          · have : tlB 47 t = none := no_tl' 47 t fun y hy e => by
              subst e
              obtain ⟨j, hj, e2⟩ := List.mem_iff_getElem.1 hy
              exact h2 (j + 1) (by omega) (by rw [List.getElem?_cons_succ, List.getElem?_eq_getElem hj, e2])
            rw [this] at h
            exact h
        · cases k with
          | zero =>
            left
            have ha : a = 47 := by simpa using h3
            refine ⟨?_, .inl (by omega)⟩
            rcases hcase with ⟨_, h⟩ | ⟨h, _⟩
            · exact h
            · omega
          | succ q =>
            by_cases h84 : a = 84
            · right
              have hq : t[q]? = some 47 := by simpa using h3
              have ht : t = t.take q ++ 47 :: t.drop (q + 1) := by
                have := (List.take_append_drop q t).symm
                rwa [(get_drop hq).2] at this
              have hql : (t.take q).length = q := by rw [List.length_take]; omega
              refine ⟨t.take q, t.drop (q + 1), h84, ht, by rw [h1, hql]; rfl, ?_⟩
              have hB : ∀ y, y ∈ t.drop (q + 1) → y ≠ 47 := fun y hy e => by
                subst e
                obtain ⟨j, hj, e2⟩ := List.mem_iff_getElem.1 hy
                rw [List.getElem_drop] at e2
                rw [List.length_drop] at hj
                exact h4 (q + 1 + j + 1) (by omega) (by omega) (by rw [List.getElem?_cons_succ, List.getElem?_eq_getElem (by omega), e2])
              rcases hcase with ⟨h, _⟩ | ⟨_, h⟩
              · exact absurd h84 h
              · rw [h]
                have := last_first (t.take q) (t.drop (q + 1)) hB
                rwa [← ht] at this
            · left
              refine ⟨?_, .inr h84⟩
              rcases hcase with ⟨_, h⟩ | ⟨h, _⟩
              · exact h
              · exact absurd h h84
      generalize la (a :: t) (t.length + 1) = k at *
      rcases hlast with ⟨hr, hk⟩ | ⟨A, B0, rfl, rfl, rfl, hr⟩
      · subst hr
        have walk : ∀ (K : K), (∀ B H, At' G (.ex 0) ⟨[(0, .m (.s (a :: t))), (8, .m (.i .i64 k)), (9, .m (.i .i64 ((t.length : Int) + 1))), (45, .m (.b false))], [], ⟨B, H⟩⟩ K) → ∀ B H, Run G c19_B0 (S19_0 (.m (.s (a :: t))) (.m (.i .i64 (-1))) (.m (.i .i64 0)) B H) (.seq c19_L0 K) := first
        by_cases h1 : a = 87
        · subst h1
          have hw : wOk t = false := by
            cases hw : wOk t with
            | false => rfl
            | true => exact absurd ⟨rfl, hw⟩ h87
          rw [hw] at gN
          simp (maxSteps := 2000000) (disch := omega) [gd_in, gd_and, wr_i64, p0, p1, cl (gN _), gcall_cx]
          refine walk _ (fun B H => ?_) _ _
          by_cases hk1 : k < 1
          · simp (maxSteps := 2000000) (disch := omega) [gd_in, gd_and, wr_i64, hk1, gcall_cx, resW]
          · simp (maxSteps := 2000000) (disch := omega) [gd_in, gd_and, wr_i64, hk1, p0, gcall_cx, resW]
        · have h1' : ¬ (a : Int) = 87 := by omega
          simp (maxSteps := 2000000) (disch := omega) [gd_in, gd_and, wr_i64, p0, p1, h1', gcall_cx]
          refine walk _ (fun B H => ?_) _ _
          by_cases hk1 : k < 1
          · simp (maxSteps := 2000000) (disch := omega) [gd_in, gd_and, wr_i64, hk1, gcall_cx, resW]
          · have h84 : ¬ (a : Int) = 84 := by
              have := hk.resolve_left hk1
              omega
            simp (maxSteps := 2000000) (disch := omega) [gd_in, gd_and, wr_i64, hk1, p0, h84, gcall_cx, resW]
      · have gA := fun H => numeral_r (t := A) (by simp at htl; omega) H
        have gB := fun H => numeral_r (t := B0) (by simp at htl; omega) H
        have q1 : ¬ (A.length : Int) + 1 < 1 := by omega
        have wA : wr .i64 ((A.length : Int) + 1 + 1) = (A.length : Int) + 1 + 1 := wr_i64 (by simp at htl; omega) (by simp at htl; omega)
        have sA : (A ++ 47 :: B0).take A.length = A := by simp
        have sB : (A ++ 47 :: B0).drop (A.length + 1) = B0 := by
          rw [List.drop_append]
          simp
        have sB2 : B0.take (A.length + (B0.length + 1) - (A.length + 1)) = B0 := List.take_of_length_le (by omega)
        have r0 : (0 : Int) < (A.length : Int) + ((B0.length : Int) + 1) + 1 := by omega
        have r1 : (A.length : Int) + 1 ≤ (A.length : Int) + ((B0.length : Int) + 1) + 1 := by omega
        have r2 : (A.length : Int) + 1 + 1 ≤ (A.length : Int) + ((B0.length : Int) + 1) + 1 := by omega
        have r3 : (0 : Int) ≤ (A.length : Int) + 1 := by omega
        have r4 : (1 : Int) ≤ (A.length : Int) + 1 := by omega
        have r5 : (0 : Int) ≤ (A.length : Int) + 1 + 1 := by omega
        have n1 : ((A.length : Int) + 1).toNat = A.length + 1 := by omega
        have n2 : ((A.length : Int) + 1 + 1).toNat = A.length + 1 + 1 := by omega
        simp (maxSteps := 2000000) (disch := omega) [gd_in, gd_and, wr_i64, r0, gcall_cx]
        refine first _ (fun B H => ?_) _ _
        unfold pairW at hr
        cases hA : wOk A with
        | false =>
          rw [hA] at gA
          rw [if_neg (by rw [hA]; simp)] at hr
          subst hr
          simp (maxSteps := 2000000) (disch := omega) [gd_in, gd_and, wr_i64, q1, r0, r1, r2, r3, r4, r5, n1, n2, wA, sA, sB, sB2, cl (gA _), gcall_cx, resW]
        | true =>
          rw [hA] at gA
          have gvA := fun H => value_r (t := A) (by simp at htl; omega) (wOk_in hA).2 H
          unfold valV at gvA
          cases hB : wOk B0 with
          | false =>
            rw [hB] at gB
            rw [if_neg (by rw [hB]; simp)] at hr
            subst hr
            simp (maxSteps := 2000000) (disch := omega) [gd_in, gd_and, wr_i64, q1, r0, r1, r2, r3, r4, r5, n1, n2, wA, sA, sB, sB2, cl (gA _), cl (gB _), gcall_cx, resW]
          | true =>
            rw [hB] at gB
            have gvB := fun H => value_r (t := B0) (by simp at htl; omega) (wOk_in hB).2 H
            unfold valV at gvB
            rw [if_pos ⟨hA, hB⟩] at hr
            by_cases dA : dval 0 A < 9223372036854775808
            · rw [if_pos dA] at gvA
              by_cases dB : dval 0 B0 < 9223372036854775808
              · rw [if_pos dB] at gvB
                rw [if_pos ⟨dA, dB⟩] at hr
                obtain ⟨z, gd⟩ := digits_r (dval 0 B0 : Nat) (dval 0 A : Nat) (by omega) H
                generalize dErr (dval 0 B0 : Nat) (dval 0 A : Nat) = e at *
                by_cases he : e = 0
                · subst he
                  rw [if_pos rfl] at hr
                  subst hr
                  simp (maxSteps := 2000000) (disch := omega) [gd_in, gd_and, wr_i64, q1, r0, r1, r2, r3, r4, r5, n1, n2, wA, sA, sB, sB2, cl (gA _), cl (gB _), gcall_cx, resW, cl (gvA _), cl (gvB _), cl gd]
                · rw [if_neg he] at hr
                  subst hr
                  simp (maxSteps := 2000000) (disch := omega) [gd_in, gd_and, wr_i64, q1, r0, r1, r2, r3, r4, r5, n1, n2, wA, sA, sB, sB2, cl (gA _), cl (gB _), gcall_cx, resW, cl (gvA _), cl (gvB _), cl gd, he]
              · rw [if_neg dB] at gvB
                rw [if_neg (by omega)] at hr
                subst hr
                simp (maxSteps := 2000000) (disch := omega) [gd_in, gd_and, wr_i64, q1, r0, r1, r2, r3, r4, r5, n1, n2, wA, sA, sB, sB2, cl (gA _), cl (gB _), gcall_cx, resW, cl (gvA _), cl (gvB _)]
            · rw [if_neg dA] at gvA
              rw [if_neg (by omega)] at hr
              subst hr
              by_cases dB : dval 0 B0 < 9223372036854775808
              · rw [if_pos dB] at gvB
                simp (maxSteps := 2000000) (disch := omega) [gd_in, gd_and, wr_i64, q1, r0, r1, r2, r3, r4, r5, n1, n2, wA, sA, sB, sB2, cl (gA _), cl (gB _), gcall_cx, resW, cl (gvA _), cl (gvB _)]
              · rw [if_neg dB] at gvB
                simp (maxSteps := 2000000) (disch := omega) [gd_in, gd_and, wr_i64, q1, r0, r1, r2, r3, r4, r5, n1, n2, wA, sA, sB, sB2, cl (gA _), cl (gB _), gcall_cx, resW, cl (gvA _), cl (gvB _)]
theorem aggStrW : aggT Go.Proofs.Tryd.prog 9 = some false := by unfold aggT; rw [Go.Proofs.Tryd.underlying9]; rfl
theorem arg_strW {B n : Nat} {ts : List TypeId} {us : List V} (h : ArgsOk Go.Proofs.Tryd.prog B (n + 1) (9 :: ts) us) : ∃ (s : List Nat) (r : List V), us = .m (.s s) :: r ∧ s.length ≤ B ∧ (∀ c, c ∈ s → c < 256) ∧ ArgsOk Go.Proofs.Tryd.prog B (n + 1) ts r := by
  obtain ⟨l, r, rfl, hl, h'⟩ := argsOk_cons h
  unfold Fits at hl
  rw [Go.Proofs.Tryd.underlying9] at hl
  obtain ⟨s, rfl, h1, h2⟩ := hl
  rw [argV_one aggStrW]
  exact ⟨s, r, rfl, h1, h2, h'⟩
theorem law_wparses (hA : Gives G 12 [] [] (.m (.b true)) []) {s : List Nat} (hb : ∀ c, c ∈ s → c < 256) : Gives G 6 [.m (.s s)] [] (.m (.b true)) [] := by
  refine gives_pur rfl rfl rfl rfl rfl ?_
  by_cases h5 : 1000 < s.length
  · have h' : (1000 : Int) < s.length := by omega
    simp (maxSteps := 2000000) (disch := omega) [gd_in, gd_and, wr_i64, h', cl hA]
  · have h' : ¬ (1000 : Int) < s.length := by omega
    have gs := fun H => parse10_s (s := s) (by omega) hb H
    have gr := fun H => parse10_r (s := s) (by omega) hb H
    generalize pW s = r at *
    obtain ⟨a, b, c, d⟩ := r
    unfold resW at gs gr
    cases c <;> simp (maxSteps := 2000000) (disch := omega) [gd_in, gd_and, wr_i64, h', cl (gs _), cl (gr _), cl hA, gcall_cx]
theorem wolfram_parses (us : List V) (h : ArgsOk Go.Proofs.Tryd.prog maxLen 8 Go.Proofs.Tryd.f6.params.toList us) : Gives G 6 us [] (.m (.b true)) [] := by
  have e : Go.Proofs.Tryd.f6.params.toList = [9] := by rw [Go.Proofs.Tryd.params6]
  have h := e ▸ h
  obtain ⟨s, r, rfl, _, hb, h2⟩ := arg_strW h
  have := argsOk_nil h2
  subst this
  exact law_wparses gives_awake hb
end Go.Mx.Tryd
