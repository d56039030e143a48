/- WolframCodes. -/
import Derived.Test.YtaomjcmiaiokcaaDoorWdih
set_option maxRecDepth 100000
namespace Go.Mx.Tryd

theorem drop_at {l r : List Int} {x : Int} {i : Nat} (hd : l.drop i = x :: r) : i < l.length ∧ l[i]? = some x ∧ l.drop (i + 1) = r := by
  have h1 : i < l.length := by
    have := congrArg List.length hd
    simp at this
    omega
  have h2 : l[i]? = some x := by
    have := congrArg (fun t => t[0]?) hd
    simpa using this
  exact ⟨h1, h2, by rw [← List.drop_drop, hd]; rfl⟩

theorem rcode_loop0 (s : Int) (l : List Int) (hl : l.length ≤ 100) (k : K) (Pf : Prop)
    (hr : ∀ E, getE E 4 = some (.m (.i .i64 0)) → getE E 5 = some (.m (.i .i64 10)) → At' G .ret ⟨E, [], ⟨[], []⟩⟩ k = Pf) :
    ∀ (r : List Int) (i : Nat), l.drop i = r → i ≤ l.length →
      Run G c24_B0 ⟨[(0, .m (.i .i64 s)), (1, .m (.sl (celI l))), (6, .m (.i .i64 i)), (22, .m (.b false))], [], ⟨[], []⟩⟩ (.seq c24_L0 k) =
        if r.any (badD s) then Pf else At' G (.ex 0) ⟨[(0, .m (.i .i64 s)), (1, .m (.sl (celI l))), (6, .m (.i .i64 l.length)), (22, .m (.b false)), (26, .m (.b false))], [], ⟨[], []⟩⟩ k
  | [], i, hd, hi => by
    have : i = l.length := by
      have := congrArg List.length hd
      simp at this
      omega
    subst this
    have hlen := celI_len l
    unfold c24_B0
    simp [hlen]
  | x :: r, i, hd, hi => by
    obtain ⟨hlt, hx, hd'⟩ := drop_at hd
    have hn := celI_nth hx
    have hlen := celI_len l
    have hw : wr .i64 ((i : Int) + 1) = ((i + 1 : Nat) : Int) := by rw [wr_i64 (by omega) (by omega)]; rfl
    have ih := rcode_loop0 s l hl k Pf hr r (i + 1) hd' hlt
    by_cases h1 : x < 0
    · have hb : badD s x = true := by simp [badD, h1]
      have hany : (x :: r).any (badD s) = true := by rw [List.any_cons, hb, Bool.true_or]
      rw [if_pos hany]
      unfold c24_B0
      simp [hlt, hn, hlen, h1, hr]
    · by_cases h2 : s ≤ x
      · have hb : badD s x = true := by simp [badD, h2]
        have hany : (x :: r).any (badD s) = true := by rw [List.any_cons, hb, Bool.true_or]
        rw [if_pos hany]
        unfold c24_B0
        simp [hlt, hn, hlen, h1, h2, hr]
      · have hb : badD s x = false := by simp [badD]; omega
        have hany : (x :: r).any (badD s) = r.any (badD s) := by rw [List.any_cons, hb, Bool.false_or]
        simp only [hany]
        generalize (if r.any (badD s) = true then Pf else At' G (.ex 0) ⟨[(0, .m (.i .i64 s)), (1, .m (.sl (celI l))), (6, .m (.i .i64 l.length)), (22, .m (.b false)), (26, .m (.b false))], [], ⟨[], []⟩⟩ k) = R at ih ⊢
        unfold c24_B0
        simp [hlt, hn, hlen, h1, h2] at hw ⊢
        simp [hw]
        exact Eq.to_iff (by simpa using ih)

theorem rcode_loop1 (s : Nat) (hs : 2 ≤ s) (hs8 : s ≤ 8) (l : List Int) (hl : l.length ≤ 100) (hg : ∀ d, d ∈ l → 0 ≤ d ∧ d < s) (k : K) (Pf : Prop) (P : Int → Prop)
    (hr : ∀ E, getE E 4 = some (.m (.i .i64 0)) → getE E 5 = some (.m (.i .i64 5)) → At' G .ret ⟨E, [], ⟨[], []⟩⟩ k = Pf)
    (he : ∀ E n, getE E 7 = some (.m (.i .i64 n)) → At' G (.ex 2) ⟨E, [], ⟨[], []⟩⟩ k = P n) :
    ∀ (r : List Int) (j : Nat) (n : Int), l.reverse.drop j = r → j ≤ l.length → 0 ≤ n → n ≤ 9223372036854775807 →
      Run G c24_B1 ⟨[(0, .m (.i .i64 s)), (1, .m (.sl (celI l))), (6, .m (.i .i64 l.length)), (7, .m (.i .i64 n)), (8, .m (.i .i64 ((l.length : Int) - 1 - j))), (22, .m (.b false)), (26, .m (.b false))], [], ⟨[], []⟩⟩ (.seq c24_L1 k) =
        match hor s r n with
        | none => Pf
        | some q => P q
  | [], j, n, hd, hi, h0, h1 => by
    have : j = l.length := by
      have := congrArg List.length hd
      simp at this
      omega
    subst this
    have e : (l.length : Int) - 1 - (l.length : Int) = -1 := by omega
    rw [e]
    unfold c24_B1
    simp [he _ n, hor]
  | d :: r, j, n, hd, hi, h0, h1 => by
    have hlt : j < l.length := by
      have := congrArg List.length hd
      simp at this
      omega
    have hx : l[l.length - 1 - j]? = some d := by
      have h2 : l.reverse[j]? = some d := by
        have := congrArg (fun t => t[0]?) hd
        simpa using this
      rw [List.getElem?_reverse hlt] at h2
      exact h2
    obtain ⟨d0, d1⟩ := hg d (List.mem_of_getElem? hx)
    have hn := celI_nth hx
    have hlen := celI_len l
    obtain ⟨i, hi2⟩ : ∃ i, i = l.length - 1 - j := ⟨_, rfl⟩
    have e : (l.length : Int) - 1 - (j : Int) = (i : Int) := by omega
    have e2 : (l.length : Int) - 1 - ((j + 1 : Nat) : Int) = (i : Int) - 1 := by omega
    rw [← hi2] at hn
    have hil : i < l.length := by omega
    have w3 : wr .i64 (9223372036854775807 - d) = 9223372036854775807 - d := wr_i64 (by omega) (by omega)
    have q1 : (9223372036854775807 - d).tdiv (s : Int) = (9223372036854775807 - d) / (s : Int) := Int.tdiv_eq_ediv_of_nonneg (by omega)
    have q2 : 0 ≤ (9223372036854775807 - d) / (s : Int) := Int.ediv_nonneg (by omega) (by omega)
    have q3 : (9223372036854775807 - d) / (s : Int) ≤ 9223372036854775807 - d := Int.ediv_le_self _ (by omega)
    have w4 : wr .i64 ((9223372036854775807 - d) / (s : Int)) = (9223372036854775807 - d) / (s : Int) := wr_i64 (by omega) (by omega)
    have w5 : wr .i64 ((i : Int) - 1) = (i : Int) - 1 := wr_i64 (by omega) (by omega)
    have h5 : (s : Int) ≠ 0 := by omega
    have h5' : s ≠ 0 := by omega
    rw [e]
    by_cases hq : (9223372036854775807 - d) / (s : Int) < n
    · simp only [hor, if_pos hq]
      unfold c24_B1
      simp [hil, hn, hlen, w3, w4, q1, h5, h5', hq, hr]
    · have hm : n * s ≤ 9223372036854775807 - d := by
        have : n ≤ (9223372036854775807 - d) / (s : Int) := by omega
        exact (Int.le_ediv_iff_mul_le (by omega)).1 this
      have hm0 : 0 ≤ n * s := Int.mul_nonneg h0 (by omega)
      have w6 : wr .i64 (n * s) = n * s := wr_i64 (by omega) (by omega)
      have w7 : wr .i64 (n * s + d) = n * s + d := wr_i64 (by omega) (by omega)
      have ih := rcode_loop1 s hs hs8 l hl hg k Pf P hr he r (j + 1) (n * s + d) (by rw [← List.drop_drop, hd]; rfl) hlt (by omega) (by omega)
      rw [e2] at ih
      simp only [hor, if_neg hq]
      generalize (match hor s r (n * s + d) with | none => Pf | some q => P q) = R at ih ⊢
      unfold c24_B1
      simp [hil, hn, hlen, w3, w4, q1, h5, h5', hq, w5, w6, w7]
      exact Eq.to_iff (by simpa using ih)

theorem code_r (s : Int) (l : List Int) (hl : l.length ≤ 100) (H : Hp) : Gives G 24 [.m (.i .i64 s), .m (.sl (celI l))] H (codV s l) H := by
  refine gives_pur rfl rfl rfl rfl rfl ?_
  have hlen := celI_len l
  unfold codV
  by_cases h1 : s < 2
  · simp [h1]
  by_cases h2 : 8 < s
  · simp [h1, h2]
  have w1 : wr .i64 (3 * s) = 3 * s := wr_i64 (by omega) (by omega)
  have w2 : wr .i64 (3 * s - 2) = 3 * s - 2 := wr_i64 (by omega) (by omega)
  by_cases h3 : (l.length : Int) = 3 * s - 2
  case neg => simp [h1, h2, h3, w1, w2, hlen]
  rw [if_neg (by omega)]
  have key0 := fun k Pf hr => rcode_loop0 s l hl k Pf hr l 0 rfl (Nat.zero_le _)
  have z : ((0 : Nat) : Int) = 0 := rfl
  simp only [z] at key0
  cases hb : l.any (badD s) with
  | true =>
    rw [hb] at key0
    simp [h1, h2, h3, w1, w2, hlen]
    rw [key0 _ True]
    · simp
    · intro E h4 h5
      simp [h4, h5]
  | false =>
    rw [hb] at key0
    obtain ⟨t, rfl⟩ : ∃ t : Nat, s = t := ⟨s.toNat, by omega⟩
    have hg : ∀ d, d ∈ l → 0 ≤ d ∧ d < (t : Int) := fun d hd => by
      have h5 : badD t d = false := by
        cases h : badD t d with
        | false => rfl
        | true => rw [List.any_eq_true.2 ⟨d, hd, h⟩] at hb; cases hb
      simp only [badD, Bool.or_eq_false_iff, decide_eq_false_iff_not] at h5
      omega
    have key := fun k Pf P hr he => rcode_loop1 t (by omega) (by omega) l hl hg k Pf P hr he l.reverse 0 0 rfl (Nat.zero_le _) (by omega) (by omega)
    have w3 : wr .i64 ((l.length : Int) - 1) = (l.length : Int) - 1 := wr_i64 (by omega) (by omega)
    have z2 : (l.length : Int) - 1 - ((0 : Nat) : Int) = (l.length : Int) - 1 := by omega
    rw [z2] at key
    simp only [Bool.false_eq_true, if_false] at key0 ⊢
    generalize hor (t : Int) l.reverse 0 = o at key ⊢
    cases o with
    | none =>
      simp only at key ⊢
      generalize hv2 : V.tu [.m (.i .i64 0), .m (.i .i64 5)] = v
      rw [h3] at w3 key key0
      simp [h1, h2, h3, w1, w2, hlen]
      rw [key0 _ (V.tu [.m (.i .i64 0), .m (.i .i64 10)] = v)]
      · simp [w3, hlen, h3]
        rw [key _ (V.tu [.m (.i .i64 0), .m (.i .i64 5)] = v) (fun n => .tu [.m (.i .i64 n), .m (.i .i64 0)] = v)]
        · exact hv2
        · intro E h4 h5
          simp [h4, h5]
        · intro E n h6
          simp [h6]
      · intro E h4 h5
        simp [h4, h5]
    | some q =>
      simp only at key ⊢
      generalize hv2 : V.tu [.m (.i .i64 q), .m (.i .i64 0)] = v
      rw [h3] at w3 key key0
      simp [h1, h2, h3, w1, w2, hlen]
      rw [key0 _ (V.tu [.m (.i .i64 0), .m (.i .i64 10)] = v)]
      · simp [w3, hlen, h3]
        rw [key _ (V.tu [.m (.i .i64 0), .m (.i .i64 5)] = v) (fun n => .tu [.m (.i .i64 n), .m (.i .i64 0)] = v)]
        · exact hv2
        · intro E h4 h5
          simp [h4, h5]
        · intro E n h6
          simp [h6]
      · intro E h4 h5
        simp [h4, h5]

theorem rcode_nil (s : Int) (H : Hp) : Gives G 24 [.m (.i .i64 s), .m (.nl 4)] H (.tu [.m (.i .i64 0), .m (.i .i64 2)]) H := by
  refine gives_pur rfl rfl rfl rfl rfl ?_
  by_cases h1 : s < 2
  · simp [h1]
  by_cases h2 : 8 < s
  · simp [h1, h2]
  have w1 : wr .i64 (3 * s) = 3 * s := wr_i64 (by omega) (by omega)
  have w2 : wr .i64 (3 * s - 2) = 3 * s - 2 := wr_i64 (by omega) (by omega)
  have h3 : ¬ (0 : Int) = 3 * s - 2 := by omega
  simp [h1, h2, h3, w1, w2]

/-- The digits of what the digits make are the digits. -/
theorem dig_hor (s : Nat) (hs : 2 ≤ s) : ∀ (l : List Int), (∀ d, d ∈ l → 0 ≤ d ∧ d < (s : Int)) → ∀ n, hor s l.reverse 0 = some n → 0 ≤ n ∧ dig s l.length n.toNat = l ∧ rst s l.length n.toNat = 0
  | [], _, n, h => by
    simp only [List.reverse_nil, hor, Option.some.injEq] at h
    subst h
    exact ⟨by omega, rfl, rfl⟩
  | d :: r, hg, n, h => by
    rw [List.reverse_cons, hor_append] at h
    simp only [Option.bind_eq_some_iff] at h
    obtain ⟨q, hq, h⟩ := h
    obtain ⟨q0, q1, q2⟩ := dig_hor s hs r (fun d hd => hg d (by simp [hd])) q hq
    obtain ⟨d0, d1⟩ := hg d (by simp)
    simp only [hor] at h
    split at h
    · cases h
    · simp only [Option.some.injEq] at h
      obtain ⟨a, rfl⟩ : ∃ a : Nat, q = a := ⟨q.toNat, by omega⟩
      obtain ⟨b, rfl⟩ : ∃ b : Nat, d = b := ⟨d.toNat, by omega⟩
      have hb : b < s := by omega
      have hn : n = ((a * s + b : Nat) : Int) := by rw [← h, Int.natCast_add, Int.natCast_mul]
      subst hn
      have e1 : (a * s + b) % s = b := by rw [Nat.mul_comm, Nat.mul_add_mod, Nat.mod_eq_of_lt hb]
      have e2 : (a * s + b) / s = a := by rw [Nat.mul_comm, Nat.mul_add_div (by omega), Nat.div_eq_of_lt hb, Nat.add_zero]
      simp only [Int.toNat_natCast] at q1 q2 ⊢
      refine ⟨Int.natCast_nonneg _, ?_, ?_⟩
      · simp only [List.length_cons, dig, e1, e2, q1]
      · simp only [List.length_cons, rst, e2, q2]

theorem digV_form (s n : Int) : ∃ (v : I) (e : Int), digV s n = .tu [.m v, .m (.i .i64 e)] := by
  unfold digV
  split
  · exact ⟨_, _, rfl⟩
  · split
    · exact ⟨_, _, rfl⟩
    · split
      · exact ⟨_, _, rfl⟩
      · exact ⟨_, _, rfl⟩
theorem hor_le (s : Int) (hs : 0 < s) : ∀ (l : List Int) (n m : Int), (∀ d, d ∈ l → 0 ≤ d) → 0 ≤ n → n ≤ 9223372036854775807 → hor s l n = some m → 0 ≤ m ∧ m ≤ 9223372036854775807
  | [], n, m, _, h0, h1, h => by
    simp only [hor, Option.some.injEq] at h
    omega
  | d :: r, n, m, hd, h0, h1, h => by
    simp only [hor] at h
    split at h
    · cases h
    · rename_i hq
      have d0 := hd d (by simp)
      have hm : n * s ≤ 9223372036854775807 - d := by
        have : n ≤ (9223372036854775807 - d) / s := by omega
        exact (Int.le_ediv_iff_mul_le hs).1 this
      have hm0 : 0 ≤ n * s := Int.mul_nonneg h0 (by omega)
      exact hor_le s hs r _ m (fun d hd' => hd d (by simp [hd'])) (by omega) (by omega) h

theorem law_codes_short (s : Int) (l : List Int) (hl : l.length ≤ 100) : Gives G 8 [.m (.i .i64 s), .m (.sl (celI l))] [] (.m (.b true)) [] := by
  have g1 := code_s s l hl []
  have g2 := code_r s l hl []
  have hlen := celI_len l
  have hbig : ¬ (100 : Int) < l.length := by omega
  have bad : ∀ e : Int, e ≠ 0 → codV s l = .tu [.m (.i .i64 0), .m (.i .i64 e)] → Gives G 8 [.m (.i .i64 s), .m (.sl (celI l))] [] (.m (.b true)) [] := fun e he hd => by
    rw [hd] at g1 g2
    have g3 := digits_s s 0 (by omega) []
    obtain ⟨v, f, hv⟩ := digV_form s 0
    rw [hv] at g3
    refine gives_pur rfl rfl rfl rfl rfl ?_
    simp [hlen, hbig, wc g1, wc g2, wc g3, he, wc gives_awake]
  by_cases h1 : s < 2 ∨ 8 < s ∨ (l.length : Int) ≠ 3 * s - 2
  · exact bad 2 (by omega) (by unfold codV; rw [if_pos h1])
  by_cases h2 : l.any (badD s) = true
  · exact bad 10 (by omega) (by unfold codV; rw [if_neg h1, if_pos h2])
  cases h3 : hor s l.reverse 0 with
  | none => exact bad 5 (by omega) (by unfold codV; rw [if_neg h1, if_neg h2, h3])
  | some n =>
    have hc : codV s l = .tu [.m (.i .i64 n), .m (.i .i64 0)] := by unfold codV; rw [if_neg h1, if_neg h2, h3]
    rw [hc] at g1 g2
    obtain ⟨t, rfl⟩ : ∃ t : Nat, s = t := ⟨s.toNat, by omega⟩
    have hg : ∀ d, d ∈ l → 0 ≤ d ∧ d < (t : Int) := fun d hd => by
      have h5 : badD t d = false := by
        cases h : badD t d with
        | false => rfl
        | true => exact absurd (List.any_eq_true.2 ⟨d, hd, h⟩) h2
      simp only [badD, Bool.or_eq_false_iff, decide_eq_false_iff_not] at h5
      omega
    obtain ⟨k0, k1, k2⟩ := dig_hor t (by omega) l hg n h3
    obtain ⟨_, n1⟩ := hor_le t (by omega) l.reverse 0 n (fun d hd => (hg d (by simpa using hd)).1) (by omega) (by omega) h3
    have g3 := digits_s t n n1 []
    have hT : 3 * t - 2 = l.length := by omega
    have hv : digV t n = .tu [.m (.sl (celI l)), .m (.i .i64 0)] := by
      unfold digV
      rw [if_neg (by omega), if_neg (by omega)]
      simp only [Int.toNat_natCast, hT, k1, k2, Nat.lt_irrefl, if_false]
    rw [hv] at g3
    have g4 := same_eq l (by omega) []
    refine gives_pur rfl rfl rfl rfl rfl ?_
    simp [hlen, hbig, wc g1, wc g2, wc g3, wc g4, wc gives_awake]
theorem law_codes_long (s : Int) (l : List Int) (hl : 100 < l.length) : Gives G 8 [.m (.i .i64 s), .m (.sl (celI l))] [] (.m (.b true)) [] := by
  have hlen := celI_len l
  have hbig : (100 : Int) < l.length := by omega
  refine gives_pur rfl rfl rfl rfl rfl ?_
  simp [hlen, hbig, wc gives_awake]
theorem law_codes_nil (s : Int) : Gives G 8 [.m (.i .i64 s), .m (.nl 4)] [] (.m (.b true)) [] := by
  have g3 := digits_s s 0 (by omega) []
  obtain ⟨v, f, hv⟩ := digV_form s 0
  rw [hv] at g3
  refine gives_pur rfl rfl rfl rfl rfl ?_
  simp [wc (code_nil s []), wc (rcode_nil s []), wc g3, wc gives_awake]

theorem cel_of : ∀ {es : List (List I)}, (∀ x, x ∈ es → ∃ y : Int, x = [.i .i64 y]) → ∃ l : List Int, es = celI l
  | [], _ => ⟨[], rfl⟩
  | x :: r, h => by
    obtain ⟨y, rfl⟩ := h x (by simp)
    obtain ⟨l, rfl⟩ := cel_of (es := r) fun x hx => h x (List.mem_cons_of_mem _ hx)
    exact ⟨y :: l, rfl⟩

theorem wolfram_codes {B : Nat} (us : List V) (h : ArgsOk Go.Proofs.Tryd.prog B 8 Go.Proofs.Tryd.f8.params.toList us) : Gives G 8 us [] (.m (.b true)) [] := by
  have e : Go.Proofs.Tryd.f8.params.toList = [3, 35] := by rw [Go.Proofs.Tryd.params8]
  have h := e ▸ h
  obtain ⟨l1, r1, rfl, hl1, h⟩ := argsOk_cons h
  obtain ⟨l2, r2, rfl, hl2, h⟩ := argsOk_cons h
  have := argsOk_nil h
  subst this
  have ha : aggT Go.Proofs.Tryd.prog 3 = some false := by unfold aggT; rw [Go.Proofs.Tryd.underlying3]; rfl
  have hb : aggT Go.Proofs.Tryd.prog 35 = some false := by unfold aggT; rw [Go.Proofs.Tryd.underlying35]; rfl
  simp only [Fits, Go.Proofs.Tryd.underlying3, Go.Proofs.Tryd.underlying35] at hl1 hl2
  obtain ⟨n, rfl, _, _⟩ := hl1
  rcases hl2 with rfl | ⟨es, rfl, _, hes⟩
  · rw [argV_one ha, argV_one hb]
    exact law_codes_nil n
  · have : ∃ l : List Int, es = celI l := cel_of fun x hx => let ⟨y, h1, _⟩ := hes x hx; ⟨y, h1⟩
    obtain ⟨l, rfl⟩ := this
    rw [argV_one ha, argV_one hb]
    by_cases hl : l.length ≤ 100
    · exact law_codes_short n l hl
    · exact law_codes_long n l (by omega)
end Go.Mx.Tryd
