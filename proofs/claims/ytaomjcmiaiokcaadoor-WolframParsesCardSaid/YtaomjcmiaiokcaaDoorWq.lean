/- wolfram.Parse and its reference: their parts. -/
import Derived.Test.YtaomjcmiaiokcaaDoorWp
set_option linter.unusedSimpArgs false
set_option linter.unusedVariables false
set_option linter.unusedSectionVars false
set_option maxRecDepth 100000
namespace Go.Mx.Tryd
open Go.Lib Go.Proofs

/- The digits' error. -/
def rst (s : Nat) : Nat → Nat → Nat
  | 0, m => m
  | k + 1, m => rst s k (m / s)
def dErr (s n : Int) : Int := if s < 2 ∨ 8 < s then 2 else if n < 0 then 5 else if 0 < rst s.toNat (3 * s.toNat - 2) n.toNat then 5 else 0
theorem sums_s (s : Nat) (h2 : 2 ≤ s) (h8 : s ≤ 8) (H : Hp) : Gives G 33 [.m (.i .i64 (s : Int))] H (.m (.i .i64 ((3 * s - 2 : Nat) : Int))) H := by
  refine gives_pur rfl rfl rfl rfl rfl ?_
  have w1 : wr .i64 (3 * (s : Int)) = 3 * (s : Int) := wr_i64 (by omega) (by omega)
  have w2 : wr .i64 (3 * (s : Int) - 2) = ((3 * s - 2 : Nat) : Int) := by rw [wr_i64 (by omega) (by omega)]; omega
  simp [w1, w2]
theorem quo_n (m s : Nat) (hs : 0 < s) (hm : m ≤ 9223372036854775807) : wr .i64 ((m : Int).tdiv s) = ((m / s : Nat) : Int) := by
  have e : (m : Int).tdiv s = ((m / s : Nat) : Int) := rfl
  have := Nat.div_le_self m s
  rw [e]
  generalize m / s = q at *
  exact wr_i64 (by omega) (by omega)
set_option maxHeartbeats 1000000 in
theorem digits_s (s n : Int) (hn : n ≤ 9223372036854775807) (H : Hp) : ∃ z : I, Gives G 20 [.m (.i .i64 s), .m (.i .i64 n)] H (.tu [.m z, .m (.i .i64 (dErr s n))]) H := by
  have key : ∃ v H', Gives G 20 [.m (.i .i64 s), .m (.i .i64 n)] H v H' ∧ (H' = H ∧ ∃ z : I, v = .tu [.m z, .m (.i .i64 (dErr s n))]) := by
    refine gives_of_ret ?_
    refine ret_pur rfl rfl rfl rfl rfl ?_
    unfold dErr
    by_cases h1 : s < 2
    · rw [if_pos (.inl h1)]
      simp [h1]
    · by_cases h2 : 8 < s
      · rw [if_pos (.inr h2)]
        simp [h1, h2]
      · rw [if_neg (by omega)]
        by_cases h3 : n < 0
        · rw [if_pos h3]
          simp [h1, h2, h3]
        · rw [if_neg h3]
          obtain ⟨u, rfl⟩ := Int.eq_ofNat_of_zero_le (show 0 ≤ s by omega)
          obtain ⟨m, rfl⟩ := Int.eq_ofNat_of_zero_le (show 0 ≤ n by omega)
          have gs := fun H => sums_s u (by omega) (by omega) H
          simp only [Int.toNat_natCast]
          have hT : 3 * u - 2 ≤ 22 := by omega
          have hu : 0 < u := by omega
          have hu0 : ¬ (u : Int) = 0 := by omega
          have hu0' : ¬ u = 0 := by omega
          generalize hE : (if 0 < rst u (3 * u - 2) m then (5 : Int) else 0) = er
          generalize 3 * u - 2 = T at *
          simp (maxSteps := 2000000) (disch := omega) [gd_in, gd_and, wr_i64, h1, h2, h3, cl (gs _)]
          refine (?key : ∀ (i x : Nat) (f : List Int) (o : V) (B : List (Nat × List V)) (H : Hp), i ≤ T → x ≤ 9223372036854775807 → f.length ≤ i → OutN f o H → rst u (T - i) x = rst u T m → Run G c20_B0 (S20_0 (.m (.i .i64 (u : Int))) (.m (.i .i64 (x : Int))) o (.m (.i .i64 (T : Int))) (.m (.i .i64 (i : Int))) B H) _) 0 m [] (.m (.nl 4)) [] [] (Nat.zero_le _) (by omega) (Nat.zero_le _) (.inl ⟨rfl, rfl, rfl⟩) rfl
          refine indM (fun i : Nat => T - i) fun i ih x f o B H hi hx hf ho hr => ?_
          unfold c20_B0
          have hno := outN_no ho
          by_cases hit : i = T
          · subst hit
            rw [Nat.sub_self] at hr
            have hr : x = _ := hr
            rw [← hr] at hE
            by_cases hp : 0 < x
            · rw [if_pos hp] at hE
              subst hE
              simp [hp]
            · rw [if_neg hp] at hE
              subst hE
              obtain ⟨z, hz⟩ := outN_view ho
              simp [hp, setC_v hno, hz, hno]
          · have p1 : (i : Int) < T := by omega
            have p2 : i < T := by omega
            have wi : wr .i64 ((i : Int) + 1) = (i : Int) + 1 := wr_i64 (by omega) (by omega)
            obtain ⟨o1, H1, ha, hn1, ho1⟩ := outN_push ho (by omega) ((x : Int).tmod (u : Int))
            have hq := quo_n x u hu hx
            have hq2 : wr .i64 ((x : Int) / (u : Int)) = ((x / u : Nat) : Int) := hq
            have hdl := Nat.div_le_self x u
            have e : rst u (T - i) x = rst u (T - (i + 1)) (x / u) := by
              rw [show T - i = (T - (i + 1)) + 1 by omega]
              rfl
            rw [e] at hr
            have k := ih (i + 1) (by omega) (x / u) (f ++ [(x : Int).tmod (u : Int)]) o1 B H1 (by omega) (by omega) (by simp; omega) ho1 hr
            generalize x / u = x2 at *
            simp [p1, p2, hu0, hu0', ha, setC_v hn1, hq, hq2, wi]
            exact k
  obtain ⟨v, H', h1, rfl, z, rfl⟩ := key
  exact ⟨z, h1⟩
set_option maxHeartbeats 1000000 in
theorem digits_r (s n : Int) (hn : n ≤ 9223372036854775807) (H : Hp) : ∃ z : I, Gives G 21 [.m (.i .i64 s), .m (.i .i64 n)] H (.tu [.m z, .m (.i .i64 (dErr s n))]) H := by
  have key : ∃ v H', Gives G 21 [.m (.i .i64 s), .m (.i .i64 n)] H v H' ∧ (H' = H ∧ ∃ z : I, v = .tu [.m z, .m (.i .i64 (dErr s n))]) := by
    refine gives_of_ret ?_
    refine ret_pur rfl rfl rfl rfl rfl ?_
    unfold dErr
    by_cases h1 : s < 2
    · rw [if_pos (.inl h1)]
      simp [h1]
    · by_cases h2 : 8 < s
      · rw [if_pos (.inr h2)]
        simp [h1, h2]
      · rw [if_neg (by omega)]
        by_cases h3 : n < 0
        · rw [if_pos h3]
          simp [h1, h2, h3]
        · rw [if_neg h3]
          obtain ⟨u, rfl⟩ := Int.eq_ofNat_of_zero_le (show 0 ≤ s by omega)
          obtain ⟨m, rfl⟩ := Int.eq_ofNat_of_zero_le (show 0 ≤ n by omega)
          simp only [Int.toNat_natCast]
          have hu2 : 2 ≤ u := by omega
          have hu8 : u ≤ 8 := by omega
          have hu : 0 < u := by omega
          have hu0 : ¬ (u : Int) = 0 := by omega
          have hu0' : ¬ u = 0 := by omega
          have w1 : wr .i64 ((u : Int) - 1) = (u : Int) - 1 := wr_i64 (by omega) (by omega)
          have w2 : wr .i64 (3 * ((u : Int) - 1)) = 3 * ((u : Int) - 1) := wr_i64 (by omega) (by omega)
          generalize hE : (if 0 < rst u (3 * u - 2) m then (5 : Int) else 0) = er
          simp (maxSteps := 2000000) (disch := omega) [gd_in, gd_and, wr_i64, h1, h2, h3]
          refine (?key : ∀ (i x : Nat) (f : List Int) (o : V) (B : List (Nat × List V)) (H : Hp), i ≤ 3 * u - 2 → x ≤ 9223372036854775807 → f.length ≤ i → OutN f o H → rst u (3 * u - 2 - i) x = rst u (3 * u - 2) m → Run G c21_B0 (S21_0 (.m (.i .i64 (u : Int))) (.m (.i .i64 (x : Int))) o (.m (.i .i64 (i : Int))) B H) _) 0 m [] (.m (.nl 4)) [] [] (Nat.zero_le _) (by omega) (Nat.zero_le _) (.inl ⟨rfl, rfl, rfl⟩) rfl
          refine indM (fun i : Nat => 3 * u - 2 - i) fun i ih x f o B H hi hx hf ho hr => ?_
          unfold c21_B0
          have hno := outN_no ho
          by_cases hit : i = 3 * u - 2
          · rw [hit, Nat.sub_self] at hr
            have hr : x = _ := hr
            rw [← hr] at hE
            have p1 : ¬ (i : Int) ≤ 3 * ((u : Int) - 1) := by omega
            by_cases hp : 0 < x
            · rw [if_pos hp] at hE
              subst hE
              simp [w1, w2, p1, hp]
            · rw [if_neg hp] at hE
              subst hE
              obtain ⟨z, hz⟩ := outN_view ho
              simp [w1, w2, p1, hp, setC_v hno, hz, hno]
          · have p1 : (i : Int) ≤ 3 * ((u : Int) - 1) := by omega
            have wi : wr .i64 ((i : Int) + 1) = (i : Int) + 1 := wr_i64 (by omega) (by omega)
            obtain ⟨o1, H1, ha, hn1, ho1⟩ := outN_push ho (by omega) ((x : Int).tmod (u : Int))
            have hq := quo_n x u hu hx
            have hq2 : wr .i64 ((x : Int) / (u : Int)) = ((x / u : Nat) : Int) := hq
            have hdl := Nat.div_le_self x u
            have e : rst u (3 * u - 2 - i) x = rst u (3 * u - 2 - (i + 1)) (x / u) := by
              rw [show 3 * u - 2 - i = (3 * u - 2 - (i + 1)) + 1 by omega]
              rfl
            rw [e] at hr
            have k := ih (i + 1) (by omega) (x / u) (f ++ [(x : Int).tmod (u : Int)]) o1 B H1 (by omega) (by omega) (by simp; omega) ho1 hr
            generalize x / u = x2 at *
            simp [w1, w2, p1, hu0, hu0', ha, setC_v hn1, hq, hq2, wi]
            exact k
  obtain ⟨v, H', h1, rfl, z, rfl⟩ := key
  exact ⟨z, h1⟩

/- Numeral and Value of the reference. -/
theorem inS_cons10 (c : Nat) (r : List Nat) : inS digS (c :: r) = (okD c && inS digS r) := by
  rw [inS_cons]
  congr 1
  unfold digS okD
  rw [Bool.eq_iff_iff]
  simp
  omega
theorem inS_drop (d : List Nat) {i x : Nat} (hx : d[i]? = some x) : inS digS (d.drop i) = (okD x && inS digS (d.drop (i + 1))) := by
  rw [(get_drop hx).2, inS_cons10]
theorem numeral_loop (t : List Nat) (hl : t.length ≤ 100000) (K : K)
    (hf : inS digS t = false → ∀ (E : Env) (B : List (Nat × List V)) (H : Hp), getE E 2 = some (.m (.b false)) → At' G .ret ⟨E, [], ⟨B, H⟩⟩ K)
    (he : inS digS t = true → ∀ (B : List (Nat × List V)) (H : Hp), At' G (.ex 0) ⟨[(0, .m (.s t)), (3, .m (.i .i64 (t.length : Int))), (20, .m (.b false))], [], ⟨B, H⟩⟩ K) (B : List (Nat × List V)) (H : Hp) :
    Run G c31_B0 (S31_0 (.m (.s t)) (.m (.i .i64 0)) B H) (.seq c31_L0 K) := by
  refine (?key : ∀ (i : Nat) (B : List (Nat × List V)) (H : Hp), i ≤ t.length → inS digS (t.drop i) = inS digS t → Run G c31_B0 (S31_0 (.m (.s t)) (.m (.i .i64 (i : Int))) B H) (.seq c31_L0 K)) 0 B H (Nat.zero_le _) rfl
  refine indM (fun i : Nat => t.length - i) fun i ih B H hi hq => ?_
  unfold c31_B0
  cases hx : t[i]? with
  | none =>
    have : i = t.length := by have := List.getElem?_eq_none_iff.1 hx; omega
    subst this
    rw [List.drop_length] at hq
    have k := he hq.symm B H
    simp (maxSteps := 2000000) (disch := omega) [gd_in, gd_and, wr_i64, ]
    exact k
  | some x =>
    have hlt := (get_drop hx).1
    have hlt' : (i : Int) < t.length := by omega
    have hnx : nth t i = some x := by rw [nth_get]; exact hx
    have wi : wr .i64 ((i : Int) + 1) = (i : Int) + 1 := wr_i64 (by omega) (by omega)
    rw [inS_drop t hx] at hq
    by_cases hc : 48 ≤ x ∧ x ≤ 57
    · have c1 : ¬ (x : Int) < 48 := by omega
      have c2 : ¬ (57 : Int) < x := by omega
      rw [okD_iff.2 hc, Bool.true_and] at hq
      have k := ih (i + 1) (by omega) B H (by omega) hq
      simp [hlt', hlt, hnx, c1, c2, wi]
      exact k
    · have hF : okD x = false := by
        cases h : okD x with
        | false => rfl
        | true => exact absurd (okD_iff.1 h) hc
      rw [hF, Bool.false_and] at hq
      have k := hf hq.symm
      by_cases c1 : (x : Int) < 48
      · simp [hlt', hlt, hnx, c1]
        exact k _ _ _ rfl
      · have c2 : (57 : Int) < x := by omega
        simp [hlt', hlt, hnx, c1, c2]
        exact k _ _ _ rfl
theorem numeral_r {t : List Nat} (hl : t.length ≤ 100000) (H : Hp) : Gives G 31 [.m (.s t)] H (.m (.b (wOk t))) H := by
  refine gives_pur rfl rfl rfl rfl rfl ?_
  cases t with
  | nil =>
    have e : wOk [] = false := rfl
    rw [e]
    simp (maxSteps := 2000000) (disch := omega) [gd_in, gd_and, wr_i64, ]
  | cons a r =>
    have p1 : (0 : Int) < (r.length : Int) + 1 := by omega
    have p0 : ¬ (r.length : Int) + 1 = 0 := by omega
    by_cases hr : r = []
    · subst hr
      have e : wOk [a] = inS digS [a] := by unfold wOk; simp
      generalize hres : wOk [a] = res
      rw [e] at hres
      simp (maxSteps := 2000000) (disch := omega) [gd_in, gd_and, wr_i64, ]
      refine numeral_loop [a] (by simp) _ (fun hF E B H k1 => ?_) (fun hT B H => ?_) _ _
      · rw [hF] at hres
        subst hres
        simp [k1]
      · rw [hT] at hres
        subst hres
        simp
    · have hp := List.length_pos_iff.2 hr
      have p2 : (1 : Int) < (r.length : Int) + 1 := by omega
      by_cases ha : a = 48
      · subst ha
        have e : wOk (48 :: r) = false := by unfold wOk; simp [hp]
        rw [e]
        simp (maxSteps := 2000000) (disch := omega) [gd_in, gd_and, wr_i64, p0, p1, p2]
      · have ha' : ¬ (a : Int) = 48 := by omega
        have e : wOk (a :: r) = inS digS (a :: r) := by unfold wOk; simp [ha]
        generalize hres : wOk (a :: r) = res
        rw [e] at hres
        simp (maxSteps := 2000000) (disch := omega) [gd_in, gd_and, wr_i64, p0, p1, p2, ha']
        refine numeral_loop (a :: r) hl _ (fun hF E B H k1 => ?_) (fun hT B H => ?_) _ _
        · rw [hF] at hres
          subst hres
          simp [k1]
        · rw [hT] at hres
          subst hres
          simp
theorem dval_cat : ∀ (l r : List Nat) (a : Nat), dval a (l ++ r) = dval (dval a l) r
  | [], r, a => rfl
  | c :: l, r, a => by
    have e1 : dval a (c :: (l ++ r)) = dval (10 * a + (c - 48)) (l ++ r) := rfl
    have e2 : dval a (c :: l) = dval (10 * a + (c - 48)) l := rfl
    rw [List.cons_append, e1, e2, dval_cat l r]
theorem dval_split (d : List Nat) (a i : Nat) : dval a d = dval (dval a (d.take i)) (d.drop i) := by
  rw [← dval_cat, List.take_append_drop]
def valV (t : List Nat) : V := if dval 0 t < 9223372036854775808 then .tu [.m (.i .i64 (dval 0 t : Nat)), .m (.b true)] else .tu [.m (.i .i64 0), .m (.b false)]
set_option maxHeartbeats 2000000 in
theorem value_r {t : List Nat} (hl : t.length ≤ 100000) (hin : inS digS t = true) (H : Hp) : Gives G 32 [.m (.s t)] H (valV t) H := by
  refine gives_pur rfl rfl rfl rfl rfl ?_
  generalize hres : valV t = res
  unfold valV at hres
  simp (maxSteps := 2000000) (disch := omega) [gd_in, gd_and, wr_i64, ]
  refine (?key : ∀ (i n : Nat) (B : List (Nat × List V)) (H : Hp), i ≤ t.length → n = dval 0 (t.take i) → n < 9223372036854775808 → Run G c32_B0 (S32_0 (.m (.s t)) (.m (.i .i64 (n : Int))) (.m (.i .i64 (i : Int))) B H) _) 0 0 [] [] (Nat.zero_le _) rfl (by omega)
  refine indM (fun i : Nat => t.length - i) fun i ih n B H hi hn hn63 => ?_
  unfold c32_B0
  cases hx : t[i]? with
  | none =>
    have : i = t.length := by have := List.getElem?_eq_none_iff.1 hx; omega
    subst this
    rw [List.take_length] at hn
    subst hn
    rw [if_pos hn63] at hres
    subst hres
    simp (maxSteps := 2000000) (disch := omega) [gd_in, gd_and, wr_i64, ]
  | some x =>
    have hlt := (get_drop hx).1
    have hlt' : (i : Int) < t.length := by omega
    have hnx : nth t i = some x := by rw [nth_get]; exact hx
    have wi : wr .i64 ((i : Int) + 1) = (i : Int) + 1 := wr_i64 (by omega) (by omega)
    have hc := okD_iff.1 (List.all_eq_true.1 (inS_dig hin) x (List.mem_of_getElem? hx))
    obtain ⟨y, hy⟩ : ∃ y : Nat, x = 48 + y := ⟨x - 48, by omega⟩
    have w8 : wr .u8 ((x : Int) - 48) = (y : Int) := by rw [wr_u8 (by omega) (by omega)]; omega
    have w9 : wr .i64 (y : Int) = (y : Int) := wr_i64 (by omega) (by omega)
    have w10 : wr .i64 (9223372036854775807 - (y : Int)) = ((9223372036854775807 - y : Nat) : Int) := by rw [wr_i64 (by omega) (by omega)]; omega
    have hq : wr .i64 (((9223372036854775807 - y : Nat) : Int).tdiv 10) = (((9223372036854775807 - y) / 10 : Nat) : Int) := by
      have e : ((9223372036854775807 - y : Nat) : Int).tdiv 10 = (((9223372036854775807 - y) / 10 : Nat) : Int) := rfl
      rw [e]
      exact wr_i64 (by omega) (by omega)
    have hq2 : wr .i64 (((9223372036854775807 - y : Nat) : Int) / 10) = (((9223372036854775807 - y) / 10 : Nat) : Int) := hq
    have hs : dval 0 (t.take (i + 1)) = 10 * n + y := by
      rw [take_succ_get hx, dval_app, ← hn]
      omega
    by_cases hb : (9223372036854775807 - y) / 10 < n
    · have hge : ¬ dval 0 t < 9223372036854775808 := by
        have h1 := dval_split t 0 (i + 1)
        have h2 := dval_ge (t.drop (i + 1)) (dval 0 (t.take (i + 1)))
        rw [← h1, hs] at h2
        omega
      rw [if_neg hge] at hres
      subst hres
      have hb' : (((9223372036854775807 - y) / 10 : Nat) : Int) < (n : Int) := by omega
      generalize (9223372036854775807 - y) / 10 = q at *
      generalize 9223372036854775807 - y = u at *
      simp [hlt', hlt, hnx, w8, w9, w10, hq, hq2, hb, hb']
    · have hn2 : 10 * n + y < 9223372036854775808 := by omega
      have w11 : wr .i64 (10 * (n : Int)) = 10 * (n : Int) := wr_i64 (by omega) (by omega)
      have w12 : wr .i64 (10 * (n : Int) + (y : Int)) = ((10 * n + y : Nat) : Int) := by rw [wr_i64 (by omega) (by omega)]; omega
      have k := ih (i + 1) (by omega) (10 * n + y) B H (by omega) hs.symm hn2
      have hb' : ¬ (((9223372036854775807 - y) / 10 : Nat) : Int) < (n : Int) := by omega
      generalize (9223372036854775807 - y) / 10 = q at *
      generalize 9223372036854775807 - y = u at *
      generalize 10 * n + y = n2 at *
      simp [hlt', hlt, hnx, w8, w9, w10, hq, hq2, hb, hb', w11, w12, wi]
      exact k
/- A prefix of one byte. -/
theorem cpre_i (s : List Nat) (hl : s.length ≤ 9223372036854775807) (c : Nat) (H : Hp) : Gives G 36 [.m (.s s), .m (.s [c])] H (if s.take 1 = [c] then .tu [.m (.s (s.drop 1)), .m (.b true)] else .tu [.m (.s s), .m (.b false)]) H := by
  refine gives_pur rfl rfl rfl rfl rfl ?_
  have gh := fun H => hpre_i s hl c H
  cases s with
  | nil =>
    simp (maxSteps := 2000000) (disch := omega) [gd_in, gd_and, wr_i64, cl (gh _)]
  | cons a r =>
    have p1 : (1 : Int) ≤ (r.length : Int) + 1 := by omega
    by_cases h : a = c
    · subst h
      simp (maxSteps := 2000000) (disch := omega) [gd_in, gd_and, wr_i64, cl (gh _), p1]
    · simp (maxSteps := 2000000) (disch := omega) [gd_in, gd_and, wr_i64, cl (gh _), h]
theorem cpre_s (s : List Nat) (hl : s.length ≤ 9223372036854775807) (c : Nat) (H : Hp) : Gives G 28 [.m (.s s), .m (.s [c])] H (if s.take 1 = [c] then .tu [.m (.s (s.drop 1)), .m (.b true)] else .tu [.m (.s s), .m (.b false)]) H := by
  refine gives_pur rfl rfl rfl rfl rfl ?_
  have g := fun H => cpre_i s hl c H
  by_cases h : s.take 1 = [c]
  · rw [if_pos h] at g ⊢
    simp (maxSteps := 2000000) (disch := omega) [gd_in, gd_and, wr_i64, cl (g _)]
  · rw [if_neg h] at g ⊢
    simp (maxSteps := 2000000) (disch := omega) [gd_in, gd_and, wr_i64, cl (g _)]
end Go.Mx.Tryd
