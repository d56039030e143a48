/- WolframDigits. -/
import Derived.Test.YtaomjcmiaiokcaaDoorWdig
import Derived.Test.YtaomjcmiaiokcaaDoorLaw
import Derived.Test.YtaomjcmiaiokcaaDoorAwake
set_option maxRecDepth 100000
namespace Go.Mx.Tryd

/-- What both texts of Code give. -/
def codV (s : Int) (l : List Int) : V :=
  if s < 2 ∨ 8 < s ∨ (l.length : Int) ≠ 3 * s - 2 then .tu [.m (.i .i64 0), .m (.i .i64 2)]
  else if l.any (badD s) then .tu [.m (.i .i64 0), .m (.i .i64 10)]
  else match hor s l.reverse 0 with
    | none => .tu [.m (.i .i64 0), .m (.i .i64 5)]
    | some n => .tu [.m (.i .i64 n), .m (.i .i64 0)]

theorem view_clo (s : Int) (l : List Int) : optMap (view 20 [.cs 3 1 [[.m (.i .i64 s)]] 0 false]) [.m (.sl (celI l)), .fn 34 [.pt 0 1 0 0]] = some [.sl (celI l), .fn 34 [.pt [.i .i64 s]]] := rfl

theorem code_s (s : Int) (l : List Int) (hl : l.length ≤ 100) (H : Hp) : Gives G 23 [.m (.i .i64 s), .m (.sl (celI l))] H (codV s l) H := by
  refine gives_pur rfl rfl rfl rfl rfl ?_
  have hlen := celI_len l
  unfold codV
  by_cases h1 : s < 2
  · simp [h1]
  by_cases h2 : 8 < s
  · simp [h1, h2]
  have gs := sums_s s [.cs 3 1 [[.m (.i .i64 s)]] 0 false]
  have w : wr .i64 (wr .i64 (3 * s) - 2) = 3 * s - 2 := by
    rw [wr_i64 (x := 3 * s) (by omega) (by omega), wr_i64 (by omega) (by omega)]
  rw [w] at gs
  by_cases h3 : (l.length : Int) = 3 * s - 2
  case neg => simp [h1, h2, h3, wc gs, hlen]
  have hc := contf 34 [.pt [.i .i64 s]] (badD s) l (by omega) (fun x _ => clo34 s x []) []
  have hv := gives_view (vs := [.m (.sl (celI l)), .fn 34 [.pt 0 1 0 0]]) (H := [.cs 3 1 [[.m (.i .i64 s)]] 0 false]) rfl rfl hc (view_clo s l) (.inr ⟨by simp [refs, ref1], rfl⟩)
  rw [if_neg (by omega)]
  have h4 : ¬ ((l.length : Int) ≠ 3 * s - 2) := by omega
  cases hb : l.any (badD s) with
  | true =>
    rw [hb] at hv
    simp [h1, h2, wc gs, hlen, h3, wc hv]
  | false =>
    rw [hb] at hv
    obtain ⟨t, rfl⟩ : ∃ t : Nat, s = t := ⟨s.toNat, by omega⟩
    have hg : ∀ d, d ∈ l → 0 ≤ d ∧ d < (t : Int) := fun d hd => by
      have h5 : badD t d = false := by
        cases h : badD t d with
        | false => rfl
        | true => rw [List.any_eq_true.2 ⟨d, hd, h⟩] at hb; cases hb
      simp only [badD, Bool.or_eq_false_iff, decide_eq_false_iff_not] at h5
      omega
    have key := fun k Pf P hr he => code_loop t (by omega) (by omega) l hl hg k Pf P hr he l.reverse 0 0 rfl (Nat.zero_le _) (by omega) (by omega)
    have z : ((0 : Nat) : Int) = 0 := rfl
    simp only [z] at key
    simp only [Bool.false_eq_true, if_false]
    generalize hv2 : (match hor t l.reverse 0 with | none => V.tu [.m (.i .i64 0), .m (.i .i64 5)] | some n => .tu [.m (.i .i64 n), .m (.i .i64 0)]) = v
    rw [h3] at key
    simp [h1, h2, wc gs, hlen, h3, wc hv]
    rw [key _ (V.tu [.m (.i .i64 0), .m (.i .i64 5)] = v) (fun n => .tu [.m (.i .i64 n), .m (.i .i64 0)] = v)]
    · rw [← hv2]
      cases hor t l.reverse 0 <;> rfl
    · intro E h4 h5
      simp [h4, h5]
    · intro E n h6
      simp [h6]
theorem code_nil (s : Int) (H : Hp) : Gives G 23 [.m (.i .i64 s), .m (.nl 4)] H (.tu [.m (.i .i64 0), .m (.i .i64 2)]) H := by
  refine gives_pur rfl rfl rfl rfl rfl ?_
  by_cases h1 : s < 2
  · simp [h1]
  by_cases h2 : 8 < s
  · simp [h1, h2]
  have gs := sums_s s [.cs 3 1 [[.m (.i .i64 s)]] 0 false]
  have w : wr .i64 (wr .i64 (3 * s) - 2) = 3 * s - 2 := by
    rw [wr_i64 (x := 3 * s) (by omega) (by omega), wr_i64 (by omega) (by omega)]
  rw [w] at gs
  have h3 : ¬ (0 : Int) = 3 * s - 2 := by omega
  simp [h1, h2, h3, wc gs]

theorem gives_awake : Gives G 12 [] [] (.m (.b true)) [] := ⟨_, awake_ok⟩

theorem dig_bad (s : Nat) (hs : 2 ≤ s) : ∀ (k m : Nat), (dig s k m).any (badD s) = false
  | 0, _ => rfl
  | k + 1, m => by
    have h := dig_bad s hs k (m / s)
    have h1 : m % s < s := Nat.mod_lt _ (by omega)
    have h2 : ((m % s : Nat) : Int) < (s : Int) := Int.ofNat_lt.2 h1
    have h3 : (0 : Int) ≤ ((m % s : Nat) : Int) := Int.natCast_nonneg _
    have h4 : badD s ((m % s : Nat) : Int) = false := by
      simp only [badD, Bool.or_eq_false_iff, decide_eq_false_iff_not]
      omega
    simp only [dig, List.any_cons, h4, h, Bool.or_false]

theorem law_digits (s n : Int) (hn : n ≤ 9223372036854775807) : Gives G 7 [.m (.i .i64 s), .m (.i .i64 n)] [] (.m (.b true)) [] := by
  have g1 := digits_s s n hn []
  have g2 := digits_r s n hn []
  have bad : ∀ e : Int, e ≠ 0 → digV s n = .tu [.m (.nl 4), .m (.i .i64 e)] → Gives G 7 [.m (.i .i64 s), .m (.i .i64 n)] [] (.m (.b true)) [] := fun e he hd => by
    rw [hd] at g1 g2
    refine gives_pur rfl rfl rfl rfl rfl ?_
    simp [wc g1, wc g2, wc (same_nil []), wc (code_nil s []), he, wc gives_awake]
  by_cases h1 : s < 2 ∨ 8 < s
  · exact bad 2 (by omega) (by unfold digV; rw [if_pos h1])
  by_cases h2 : n < 0
  · exact bad 5 (by omega) (by unfold digV; rw [if_neg h1, if_pos h2])
  by_cases h3 : 0 < rst s.toNat (3 * s.toNat - 2) n.toNat
  · exact bad 5 (by omega) (by unfold digV; rw [if_neg h1, if_neg h2, if_pos h3])
  obtain ⟨t, rfl⟩ : ∃ t : Nat, s = t := ⟨s.toNat, by omega⟩
  obtain ⟨m, rfl⟩ : ∃ m : Nat, n = m := ⟨n.toNat, by omega⟩
  have hd : digV t m = .tu [.m (.sl (celI (dig t (3 * t - 2) m))), .m (.i .i64 0)] := by
    unfold digV
    rw [if_neg h1, if_neg h2, if_neg h3]
    rfl
  rw [hd] at g1 g2
  have hT : (dig t (3 * t - 2) m).length = 3 * t - 2 := dig_len _ _ _
  have g3 := same_eq (dig t (3 * t - 2) m) (by rw [hT]; omega) []
  have g4 := code_s t (dig t (3 * t - 2) m) (by rw [hT]; omega) []
  have hc : codV t (dig t (3 * t - 2) m) = .tu [.m (.i .i64 m), .m (.i .i64 0)] := by
    unfold codV
    rw [if_neg (by rw [hT]; omega), dig_bad t (by omega)]
    have h4 := hor_dig t (by omega) (3 * t - 2) m (by omega)
    have h5 : rst t (3 * t - 2) m = 0 := by
      have : ¬ 0 < rst t (3 * t - 2) m := h3
      omega
    rw [h5] at h4
    have h6 : hor (t : Int) (dig t (3 * t - 2) m).reverse 0 = some (m : Int) := h4
    simp only [Bool.false_eq_true, if_false, h6]
  rw [hc] at g4
  generalize celI (dig t (3 * t - 2) m) = c at g1 g2 g3 g4
  refine gives_pur rfl rfl rfl rfl rfl ?_
  simp [wc g1, wc g2, wc g3, wc g4, wc gives_awake]

theorem wolfram_digits {B : Nat} (us : List V) (h : ArgsOk Go.Proofs.Tryd.prog B 8 Go.Proofs.Tryd.f7.params.toList us) : Gives G 7 us [] (.m (.b true)) [] := by
  have e : Go.Proofs.Tryd.f7.params.toList = [3, 3] := by rw [Go.Proofs.Tryd.params7]
  have h := e ▸ h
  obtain ⟨l1, r1, rfl, hl1, h⟩ := argsOk_cons h
  obtain ⟨l2, r2, rfl, hl2, h⟩ := argsOk_cons h
  have := argsOk_nil h
  subst this
  have ha : aggT Go.Proofs.Tryd.prog 3 = some false := by unfold aggT; rw [Go.Proofs.Tryd.underlying3]; rfl
  simp only [Fits, Go.Proofs.Tryd.underlying3] at hl1 hl2
  obtain ⟨n, rfl, h1, h2⟩ := hl1
  obtain ⟨d, rfl, h3, h4⟩ := hl2
  rw [argV_one ha, argV_one ha]
  exact law_digits n d h4
end Go.Mx.Tryd
