/- StatsRatio: both texts compute the same fraction. -/
import Derived.Test.YtjkepihkilnjiaaDoorLoops
import Derived.Test.YtjkepihkilnjiaaDoorLaw
import Derived.Test.YtjkepihkilnjiaaDoorAwake
set_option maxRecDepth 100000
namespace Go.Mx.Tryd
def sizeI (x : Int) : Nat := x.natAbs
theorem size_s (x : Int) (H : Hp) (h1 : -9223372036854775808 ≤ x) (h2 : x ≤ 9223372036854775807) : Gives G 35 [.m (.i .i64 x)] H (.m (.i .u64 (x.natAbs : Nat))) H := by
  refine gives_pur rfl rfl rfl rfl rfl ?_
  by_cases h : x < 0 <;> simp [h, wr_mod_u64] <;> omega
theorem size_r (x : Int) (H : Hp) (h1 : -9223372036854775808 ≤ x) (h2 : x ≤ 9223372036854775807) : Gives G 36 [.m (.i .i64 x)] H (.m (.i .u64 (x.natAbs : Nat))) H := by
  refine gives_pur rfl rfl rfl rfl rfl ?_
  by_cases h : x < 0 <;> simp [h, wr_mod_u64] <;> omega

theorem loop16 (n d : V) (M : Mem) (k : K) : ∀ (b a : Nat), Run G c16_B0 ⟨[(0, n), (1, d), (4, .m (.i .i64 0)), (5, .m (.i .i64 0)), (6, .m (.i .i64 0)), (7, .m (.i .u64 a)), (8, .m (.i .u64 b)), (13, .m (.b false)), (15, .m (.b false))], [], M⟩ (.seq c16_L0 k) =
    At' G (.ex 0) ⟨[(0, n), (1, d), (4, .m (.i .i64 0)), (5, .m (.i .i64 0)), (6, .m (.i .i64 0)), (7, .m (.i .u64 (Nat.gcd a b : Nat))), (8, .m (.i .u64 0)), (13, .m (.b false)), (15, .m (.b false)), (21, .m (.b false))], [], M⟩ k := by
  intro b
  induction b using Nat.strongRecOn with
  | _ b ih =>
    intro a
    by_cases hb : b = 0
    · subst hb
      unfold c16_B0
      simp
    · have h1 : (b : Int) ≠ 0 := by omega
      have h2 := ih (a % b) (Nat.mod_lt _ (by omega)) b
      have h3 : (a : Int).tmod (b : Int) = ((a % b : Nat) : Int) := (Int.ofNat_tmod a b).symm
      have h4 : Nat.gcd b (a % b) = Nat.gcd a b := by rw [Nat.gcd_comm, ← Nat.gcd_rec b a, Nat.gcd_comm]
      rw [h4] at h2
      unfold c16_B0
      simp [hb, h3]
      simpa using h2

theorem loop17 (x0 x1 x7 x8 : V) (M : Mem) (k : K) : ∀ (b a : Nat), Run G c17_B0 ⟨[(0, x0), (1, x1), (4, .m (.i .i64 0)), (5, .m (.i .i64 0)), (6, .m (.i .i64 0)), (7, x7), (8, x8), (9, .m (.i .u64 a)), (10, .m (.i .u64 b)), (14, .m (.b false))], [], M⟩ (.seq c17_L0 k) =
    At' G (.ex 0) ⟨[(0, x0), (1, x1), (4, .m (.i .i64 0)), (5, .m (.i .i64 0)), (6, .m (.i .i64 0)), (7, x7), (8, x8), (9, .m (.i .u64 (Nat.gcd a b : Nat))), (10, .m (.i .u64 0)), (14, .m (.b false)), (22, .m (.b false))], [], M⟩ k := by
  intro b
  induction b using Nat.strongRecOn with
  | _ b ih =>
    intro a
    by_cases hb : b = 0
    · subst hb
      unfold c17_B0
      simp
    · have h1 : (b : Int) ≠ 0 := by omega
      have h2 := ih (a % b) (Nat.mod_lt _ (by omega)) b
      have h3 : (a : Int).tmod (b : Int) = ((a % b : Nat) : Int) := (Int.ofNat_tmod a b).symm
      have h4 : Nat.gcd b (a % b) = Nat.gcd a b := by rw [Nat.gcd_comm, ← Nat.gcd_rec b a, Nat.gcd_comm]
      rw [h4] at h2
      unfold c17_B0
      simp [hb, h3]
      simpa using h2

/-- A fraction in lowest terms. -/
def ratT (n d : Int) : Nat := n.natAbs / Nat.gcd n.natAbs d.natAbs
def ratB (n d : Int) : Nat := d.natAbs / Nat.gcd n.natAbs d.natAbs
def ratV (n d : Int) : V :=
  if d = 0 then .tu [.m (.i .i64 0), .m (.i .i64 0), .m (.i .i64 12)]
  else if (decide (n < 0)) = (decide (d < 0)) then
    (if ratB n d ≤ 9223372036854775807 ∧ ratT n d ≤ 9223372036854775807 then .tu [.m (.i .i64 (ratT n d)), .m (.i .i64 (ratB n d)), .m (.i .i64 0)] else .tu [.m (.i .i64 0), .m (.i .i64 0), .m (.i .i64 5)])
  else (if ratB n d ≤ 9223372036854775807 then .tu [.m (.i .i64 (-(ratT n d))), .m (.i .i64 (ratB n d)), .m (.i .i64 0)] else .tu [.m (.i .i64 0), .m (.i .i64 0), .m (.i .i64 5)])

theorem ratT_le (n d : Int) : ratT n d ≤ n.natAbs := Nat.div_le_self _ _
theorem ratB_le (n d : Int) : ratB n d ≤ d.natAbs := Nat.div_le_self _ _

theorem ratio_s (n d : Int) (H : Hp) (h1 : -9223372036854775808 ≤ n) (h2 : n ≤ 9223372036854775807) (h3 : -9223372036854775808 ≤ d) (h4 : d ≤ 9223372036854775807) : Gives G 16 [.m (.i .i64 n), .m (.i .i64 d)] H (ratV n d) H := by
  refine gives_pur rfl rfl rfl rfl rfl ?_
  by_cases hd : d = 0
  · simp [hd, ratV]
  by_cases hn : n = 0
  · have e1 : ratT 0 d = 0 := by simp [ratT]
    have e2 : ratB 0 d = 1 := by
      unfold ratB
      rw [show (0 : Int).natAbs = 0 from rfl, Nat.gcd_zero_left]
      exact Nat.div_self (by omega)
    subst hn
    by_cases hs : d < 0 <;> simp [hd, ratV, e1, e2, hs]
  have hg : Nat.gcd n.natAbs d.natAbs ≠ 0 := by
    intro h
    have := Nat.eq_zero_of_gcd_eq_zero_right h
    omega
  have hgi : ((Nat.gcd n.natAbs d.natAbs : Nat) : Int) ≠ 0 := by omega
  have q1 : ((n.natAbs : Nat) : Int).tdiv ((Nat.gcd n.natAbs d.natAbs : Nat) : Int) = (ratT n d : Nat) := (Int.ofNat_tdiv _ _).symm
  have q2 : ((d.natAbs : Nat) : Int).tdiv ((Nat.gcd n.natAbs d.natAbs : Nat) : Int) = (ratB n d : Nat) := (Int.ofNat_tdiv _ _).symm
  have b1 := ratT_le n d
  have b2 := ratB_le n d
  have w1 : wr .u64 (ratT n d : Nat) = (ratT n d : Nat) := wr_u64 (by omega) (by omega)
  have w2 : wr .u64 (ratB n d : Nat) = (ratB n d : Nat) := wr_u64 (by omega) (by omega)
  have l := loop16 (.m (.i .i64 n)) (.m (.i .i64 d)) ⟨[], []⟩
  simp [hd, hn, wc (size_s n _ h1 h2), wc (size_s d _ h3 h4)]
  rw [l]
  have k1 : (decide (n < 0)) = (decide (d < 0)) ∨ (decide (n < 0)) ≠ (decide (d < 0)) := by by_cases (decide (n < 0)) = (decide (d < 0)) <;> simp_all
  have r1 : ((ratB n d : Nat) : Int) ≤ 9223372036854775808 := by omega
  have r2 : ((ratT n d : Nat) : Int) ≤ 9223372036854775808 := by omega
  by_cases hB : ratB n d ≤ 9223372036854775807
  · have hB' : ¬ (9223372036854775807 : Int) < (ratB n d : Nat) := by omega
    have wB : wr .i64 (ratB n d : Nat) = (ratB n d : Nat) := wr_i64 (by omega) (by omega)
    rcases k1 with k1 | k1
    · by_cases hT : ratT n d ≤ 9223372036854775807
      · have hT' : ¬ (9223372036854775807 : Int) < (ratT n d : Nat) := by omega
        have wT : wr .i64 (ratT n d : Nat) = (ratT n d : Nat) := wr_i64 (by omega) (by omega)
        simp [hd, hn, wc (size_s n _ h1 h2), wc (size_s d _ h3 h4), q1, q2, w1, w2, hg, hB', hT', k1, ratV, hB, hT, wB, wT]
      · have hT' : (9223372036854775807 : Int) < (ratT n d : Nat) := by omega
        simp [hd, hn, wc (size_s n _ h1 h2), wc (size_s d _ h3 h4), q1, q2, w1, w2, hg, hB', hT', k1, ratV, hB, hT]
    · have k2 : (decide (n < 0) == decide (d < 0)) = false := by simpa using k1
      have wN : wr .i64 (wr .u64 (0 - (ratT n d : Nat))) = -(ratT n d : Nat) := by rw [wr_mod_u64, wr_mod_i64]; omega
      simp [hd, hn, wc (size_s n _ h1 h2), wc (size_s d _ h3 h4), q1, q2, w1, w2, hg, hB', k1, k2, ratV, hB, wB]
      simpa using wN
  · have hB' : (9223372036854775807 : Int) < (ratB n d : Nat) := by omega
    rcases k1 with k1 | k1
    · simp [hd, hn, wc (size_s n _ h1 h2), wc (size_s d _ h3 h4), q1, q2, w1, w2, hg, hB', k1, ratV, hB]
    · have k2 : (decide (n < 0) == decide (d < 0)) = false := by simpa using k1
      simp [hd, hn, wc (size_s n _ h1 h2), wc (size_s d _ h3 h4), q1, q2, w1, w2, hg, hB', k1, k2, ratV, hB]

theorem ratio_r (n d : Int) (H : Hp) (h1 : -9223372036854775808 ≤ n) (h2 : n ≤ 9223372036854775807) (h3 : -9223372036854775808 ≤ d) (h4 : d ≤ 9223372036854775807) : Gives G 17 [.m (.i .i64 n), .m (.i .i64 d)] H (ratV n d) H := by
  refine gives_pur rfl rfl rfl rfl rfl ?_
  by_cases hd : d = 0
  · simp [hd, ratV]
  have hg : Nat.gcd n.natAbs d.natAbs ≠ 0 := by
    intro h
    have := Nat.eq_zero_of_gcd_eq_zero_right h
    omega
  have q1 : ((n.natAbs : Nat) : Int).tdiv ((Nat.gcd n.natAbs d.natAbs : Nat) : Int) = (ratT n d : Nat) := (Int.ofNat_tdiv _ _).symm
  have q2 : ((d.natAbs : Nat) : Int).tdiv ((Nat.gcd n.natAbs d.natAbs : Nat) : Int) = (ratB n d : Nat) := (Int.ofNat_tdiv _ _).symm
  have b1 := ratT_le n d
  have b2 := ratB_le n d
  have w1 : wr .u64 (ratT n d : Nat) = (ratT n d : Nat) := wr_u64 (by omega) (by omega)
  have w2 : wr .u64 (ratB n d : Nat) = (ratB n d : Nat) := wr_u64 (by omega) (by omega)
  have l := loop17 (.m (.i .i64 n)) (.m (.i .i64 d)) (.m (.i .u64 (n.natAbs : Nat))) (.m (.i .u64 (d.natAbs : Nat))) ⟨[], []⟩
  simp [hd, wc (size_r n _ h1 h2), wc (size_r d _ h3 h4)]
  rw [l]
  have k1 : (decide (n < 0)) = (decide (d < 0)) ∨ (decide (n < 0)) ≠ (decide (d < 0)) := by by_cases (decide (n < 0)) = (decide (d < 0)) <;> simp_all
  have r2' : ¬ (9223372036854775808 : Int) < (ratT n d : Nat) := by omega
  by_cases hB : ratB n d ≤ 9223372036854775807
  · have hB' : ¬ (9223372036854775807 : Int) < (ratB n d : Nat) := by omega
    have wB : wr .i64 (ratB n d : Nat) = (ratB n d : Nat) := wr_i64 (by omega) (by omega)
    by_cases hT : ratT n d ≤ 9223372036854775807
    · have hT' : ¬ ((ratT n d : Nat) : Int) = 9223372036854775808 := by omega
      have wT : wr .i64 (ratT n d : Nat) = (ratT n d : Nat) := wr_i64 (by omega) (by omega)
      have wN : wr .i64 (wr .u64 (0 - (ratT n d : Nat))) = -(ratT n d : Nat) := by rw [wr_mod_u64, wr_mod_i64]; omega
      rcases k1 with k1 | k1
      · simp [q1, q2, w1, w2, hg, hd, hB', hT', k1, ratV, hB, hT, wB, wT, r2']
      · have k2 : (decide (n < 0) == decide (d < 0)) = false := by simpa using k1
        simp [q1, q2, w1, w2, hg, hd, hB', hT', k1, k2, ratV, hB, hT, wB, wT, r2']
        simpa using wN
    · have hT' : ((ratT n d : Nat) : Int) = 9223372036854775808 := by omega
      have wN : wr .i64 (wr .u64 (0 - (ratT n d : Nat))) = -(ratT n d : Nat) := by rw [wr_mod_u64, wr_mod_i64]; omega
      rw [hT'] at wN
      have w3 : wr .u64 9223372036854775808 = 9223372036854775808 := wr_u64 (by omega) (by omega)
      rcases k1 with k1 | k1
      · simp [q1, q2, w1, w2, hg, hd, hB', hT', k1, ratV, hB, hT, wB, r2', w3]
      · have k2 : (decide (n < 0) == decide (d < 0)) = false := by simpa using k1
        simp [q1, q2, w1, w2, hg, hd, hB', hT', k1, k2, ratV, hB, hT, wB, r2', w3]
        simpa using wN
  · have hB' : (9223372036854775807 : Int) < (ratB n d : Nat) := by omega
    simp [q1, q2, w1, w2, hg, hd, hB', ratV, hB, r2']

theorem rat_form (n d : Int) (h1 : -9223372036854775808 ≤ n) (h2 : n ≤ 9223372036854775807) (h3 : -9223372036854775808 ≤ d) (h4 : d ≤ 9223372036854775807) :
    ∃ a b e : Int, ratV n d = .tu [.m (.i .i64 a), .m (.i .i64 b), .m (.i .i64 e)] ∧ ((e = 0 ∧ 0 < b ∧ a * d = b * n) ∨ (e ≠ 0 ∧ a = 0 ∧ b = 0)) := by
  unfold ratV
  by_cases hd : d = 0
  · rw [if_pos hd]; exact ⟨0, 0, 12, rfl, .inr ⟨by omega, rfl, rfl⟩⟩
  rw [if_neg hd]
  have hg : 0 < Nat.gcd n.natAbs d.natAbs := Nat.pos_of_ne_zero (by
    intro h
    have := Nat.eq_zero_of_gcd_eq_zero_right h
    omega)
  have e1 : ratT n d * Nat.gcd n.natAbs d.natAbs = n.natAbs := Nat.div_mul_cancel (Nat.gcd_dvd_left _ _)
  have e2 : ratB n d * Nat.gcd n.natAbs d.natAbs = d.natAbs := Nat.div_mul_cancel (Nat.gcd_dvd_right _ _)
  have hBp : 0 < ratB n d := Nat.pos_of_ne_zero (by
    intro h
    rw [h, Nat.zero_mul] at e2
    omega)
  have e4 : ratT n d * d.natAbs = ratB n d * n.natAbs := by
    calc ratT n d * d.natAbs = ratT n d * (ratB n d * Nat.gcd n.natAbs d.natAbs) := by rw [e2]
      _ = ratB n d * (ratT n d * Nat.gcd n.natAbs d.natAbs) := by rw [← Nat.mul_assoc, ← Nat.mul_assoc, Nat.mul_comm (ratT n d)]
      _ = ratB n d * n.natAbs := by rw [e1]
  have e3 : ((ratT n d : Nat) : Int) * (d.natAbs : Nat) = (ratB n d : Nat) * (n.natAbs : Nat) := by rw [← Int.natCast_mul, ← Int.natCast_mul, e4]
  split
  · rename_i k1
    split
    · refine ⟨_, _, 0, rfl, .inl ⟨rfl, by omega, ?_⟩⟩
      by_cases hn : n < 0
      · have hd2 : d < 0 := by simpa [hn] using k1
        have q1 : (d.natAbs : Int) = -d := by omega
        have q2 : (n.natAbs : Int) = -n := by omega
        rw [q1, q2, Int.mul_neg, Int.mul_neg] at e3
        omega
      · have hd2 : ¬ d < 0 := by simpa [hn] using k1
        have q1 : d = (d.natAbs : Int) := by omega
        have q2 : n = (n.natAbs : Int) := by omega
        rw [← q1, ← q2] at e3
        exact e3
    · exact ⟨0, 0, 5, rfl, .inr ⟨by omega, rfl, rfl⟩⟩
  · rename_i k1
    split
    · refine ⟨_, _, 0, rfl, .inl ⟨rfl, by omega, ?_⟩⟩
      by_cases hn : n < 0
      · have hd2 : ¬ d < 0 := by simpa [hn] using k1
        have q1 : (d.natAbs : Int) = d := by omega
        have q2 : (n.natAbs : Int) = -n := by omega
        rw [q1, q2] at e3
        rw [Int.neg_mul, e3, Int.mul_neg, Int.neg_neg]
      · have hd2 : d < 0 := by simpa [hn] using k1
        have q1 : (d.natAbs : Int) = -d := by omega
        have q2 : (n.natAbs : Int) = n := by omega
        rw [q1, q2] at e3
        rw [Int.neg_mul, ← Int.mul_neg, e3]
    · exact ⟨0, 0, 5, rfl, .inr ⟨by omega, rfl, rfl⟩⟩

theorem law_ratio (hA : Gives G 8 [] [] (.m (.b true)) []) (n d : Int) (h1 : -9223372036854775808 ≤ n) (h2 : n ≤ 9223372036854775807) (h3 : -9223372036854775808 ≤ d) (h4 : d ≤ 9223372036854775807) : Gives G 5 [.m (.i .i64 n), .m (.i .i64 d)] [] (.m (.b true)) [] := by
  refine gives_pur rfl rfl rfl rfl rfl ?_
  obtain ⟨a, b, e, hv, hc⟩ := rat_form n d h1 h2 h3 h4
  have g1 := ratio_s n d [] h1 h2 h3 h4
  have g2 := ratio_r n d [] h1 h2 h3 h4
  rw [hv] at g1 g2
  rcases hc with ⟨rfl, hb, hm⟩ | ⟨he, rfl, rfl⟩
  · simp [wc g1, wc g2, wc hA, hb, hm]
  · simp [wc g1, wc g2, wc hA, he]

theorem gives_awake : Gives G 8 [] [] (.m (.b true)) [] := ⟨_, awake_ok⟩

theorem stats_ratio {B : Nat} (us : List V) (h : ArgsOk Go.Proofs.Tryd.prog B 8 Go.Proofs.Tryd.f5.params.toList us) : Gives G 5 us [] (.m (.b true)) [] := by
  have e : Go.Proofs.Tryd.f5.params.toList = [3, 3] := by rw [Go.Proofs.Tryd.params5]
  have h := e ▸ h
  obtain ⟨l1, r1, rfl, hl1, h⟩ := argsOk_cons h
  obtain ⟨l2, r2, rfl, hl2, h⟩ := argsOk_cons h
  have := argsOk_nil h
  subst this
  have ha : aggT Go.Proofs.Tryd.prog 3 = some false := by unfold aggT; rw [Go.Proofs.Tryd.underlying3]; rfl
  simp only [Fits, Go.Proofs.Tryd.underlying3] at hl1 hl2
  obtain ⟨n, rfl, h1, h2⟩ := hl1
  obtain ⟨d, rfl, h3, h4⟩ := hl2
  rw [argV_one ha, argV_one ha]
  exact law_ratio gives_awake n d h1 h2 h3 h4
end Go.Mx.Tryd
