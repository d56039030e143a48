/- Sorting by a function at the machine, eighth part: breaking the patterns. -/
import Derived.Test.YtfllcbohggcmfaaGreatDoorSrv
import Derived.Test.YtfllcbohggcmfaaGreatDoorIto
set_option linter.unusedSimpArgs false
set_option linter.unusedVariables false
set_option linter.unusedSectionVars false
set_option maxRecDepth 100000
namespace Go.Mx.Tryz
open Go.Sort Go.Lib
/-- The exclusive or of two numbers of 64 bits. -/
def x64 (x y : Int) : Int := wr .u64 (Int.ofNat (Nat.xor (patK .u64 x) (patK .u64 y)))
theorem bx_xor64 (x y : Int) : binX .xor (.m (.i .u64 x)) (.m (.i .u64 y)) = some (.m (.i .u64 (x64 x y))) := by simp [binX, arX, vi, x64]
theorem x64_nat (x y : Int) : ∃ n : Nat, n < 18446744073709551616 ∧ x64 x y = n := by
  refine ⟨(Nat.xor (patK .u64 x) (patK .u64 y)) % 18446744073709551616, Nat.mod_lt _ (by decide), ?_⟩
  unfold x64
  generalize Nat.xor (patK .u64 x) (patK .u64 y) = z
  rw [wr_eq]
  simp [IntKind.wrap, IntKind.signed, IntKind.bits]
theorem bx_low (y k : Nat) (hy : y < 18446744073709551616) (hk : k ≤ 32) : binX .and (.m (.i .u64 y)) (.m (.i .u64 ((2 ^ k - 1 : Nat) : Int))) = some (.m (.i .u64 ((y % 2 ^ k : Nat) : Int))) := by
  have hp : 2 ^ k ≤ 4294967296 := Nat.pow_le_pow_right (n := 2) (by decide) hk
  have h0 : 0 < 2 ^ k := Nat.pow_pos (by decide)
  have h1 : patK .u64 (y : Int) = y := Nat.mod_eq_of_lt hy
  have h2 : patK .u64 ((2 ^ k - 1 : Nat) : Int) = 2 ^ k - 1 := Nat.mod_eq_of_lt (by show 2 ^ k - 1 < 18446744073709551616; omega)
  rw [bx_and, h1, h2]
  have h3 : Nat.land y (2 ^ k - 1) = y % 2 ^ k := Nat.and_two_pow_sub_one_eq_mod y k
  have h4 : y % 2 ^ k < 2 ^ k := Nat.mod_lt _ h0
  rw [h3, show Int.ofNat (y % 2 ^ k) = ((y % 2 ^ k : Nat) : Int) from rfl, wr_u64 (by omega) (by omega)]
theorem lenG (u : Nat) (h : u < 18446744073709551616) (H : Hp) : Gives G 59 [.m (.i .u64 u)] H (.m (.i .i64 (Lib.bitLen u))) H := by
  refine gives_pur rfl rfl rfl rfl rfl ?_
  simp (contextual := true) (maxSteps := 2000000) (disch := omega) [test_cx, rest_cx, gcall_cx, gcav_cx, -Int.not_lt, -Int.not_le, -Nat.not_lt, -Nat.not_le, -List.map_take, cl (len64 u h [])]
/-- The next power of two. -/
theorem pow2_len (u : Nat) (h1 : 1 ≤ u) (h : u ≤ 1000000000) : Lib.bitLen u ≤ 30 ∧ 2 ^ Lib.bitLen u ≤ 2 * u := by
  have hk : Lib.bitLen u ≤ 30 := bitLen_le u 30 (by decide) (by omega)
  obtain ⟨b1, b2, b3⟩ := bitLenAux_bounds 64 u (by omega) (by omega)
  refine ⟨hk, ?_⟩
  have e : bitLenAux 64 u = Lib.bitLen u := rfl
  rw [e] at b1 b2
  obtain ⟨j, hj⟩ : ∃ j, Lib.bitLen u = j + 1 := ⟨Lib.bitLen u - 1, by omega⟩
  rw [hj, Nat.pow_succ]
  rw [hj, Nat.add_sub_cancel] at b2
  omega
theorem npow (u : Nat) (h1 : 1 ≤ u) (h : u ≤ 1000000000) (H : Hp) : Gives G 109 [.m (.i .i64 u)] H (.m (.i .u64 ((2 ^ Lib.bitLen u : Nat) : Int))) H := by
  refine gives_pur rfl rfl rfl rfl rfl ?_
  obtain ⟨p1, p2⟩ := pow2_len u h1 h
  have t : min (Lib.bitLen u) 64 = Lib.bitLen u := by omega
  have h0 : 0 < 2 ^ Lib.bitLen u := Nat.pow_pos (by decide)
  have hp : ((2 ^ Lib.bitLen u : Nat) : Int) ≤ 2 * u := by omega
  have hp0 : (0 : Int) ≤ ((2 ^ Lib.bitLen u : Nat) : Int) := by omega
  generalize he : (2 ^ Lib.bitLen u : Nat) = m at hp hp0 ⊢
  simp (contextual := true) (maxSteps := 2000000) (disch := omega) [test_cx, rest_cx, gcall_cx, gcav_cx, -Int.not_lt, -Int.not_le, -Nat.not_lt, -Nat.not_le, -List.map_take, cl (lenG u (by omega) []), wr_u64, t, he]
section
variable {α : Type} [Inhabited α] {R : Rw α 3 true} {A C : Hp} {k : Nat} {lt : α → α → Bool} (W : Cmp R A k lt) (hC : W.ok C) {ty n : Nat} {lim : Bool}
/-- The row of a random number. -/
abbrev rnR (x : Int) (b : Nat) : Row := .cs 132 1 [[.m (.i .u64 x)]] b false
theorem next_w (r0 : Row) (x : Int) (b : Nat) (hb : b ≤ 1) (Q : V → Hp → Prop)
    (hQ : ∀ (y : Nat) (b1 : Nat), y < 18446744073709551616 → b1 ≤ 1 → Q (.m (.i .u64 y)) (A ++ r0 :: (C ++ [rnR y b1]))) :
    Ret G 110 [.pt (A.length + (C.length + 1)) 1 0 0] (A ++ r0 :: (C ++ [rnR x b])) Q := by
  refine ret_sh mono rfl rfl rfl rfl rfl ?_
  simp (contextual := true) (maxSteps := 2000000) (disch := omega) [test_cx, rest_cx, gcall_cx, gcav_cx, -Int.not_lt, -Int.not_le, -Nat.not_lt, -Nat.not_le, -List.map_take, gd_in, gd_and, bx_xor64, nth_end, setEl_end]
  have h := x64_nat (x64 (x64 x (wr IntKind.u64 (x * 8192))) (x64 x (wr IntKind.u64 (x * 8192)) / 128)) (wr IntKind.u64 (x64 (x64 x (wr IntKind.u64 (x * 8192))) (x64 x (wr IntKind.u64 (x * 8192)) / 128) * 131072))
  obtain ⟨y, hy, e⟩ := h
  rw [e]
  exact hQ y 1 hy (Nat.le_refl _)
theorem brk_w (d : Array α) (a b b0 : Nat) (hab : a + 8 ≤ b) (hb : b ≤ n) (hd : d.size = n) (h0 : b0 ≤ n) (hn : n ≤ 1000000000) (Q : V → Hp → Prop)
    (hQ : ∀ (d' : Array α) (b1 : Nat) (X : Hp), PermIn a b d d' → b1 ≤ n → Q (.tu []) (A ++ .cs ty 3 (rowA R d') b1 false :: (C ++ X))) :
    Ret G 79 [.sl A.length n 3 0 n lim, .m (.i .i64 a), .m (.i .i64 b), .m (.fn k [])] (A ++ .cs ty 3 (rowA R d) b0 false :: C) Q := by
  refine ret_sh mono rfl rfl rfl rfl rfl ?_
  obtain ⟨L, rfl⟩ : ∃ L, b = a + L := ⟨b - a, by omega⟩
  have tL : (a : Int) + L - a = L := by omega
  have h8 : (8 : Int) ≤ L := by omega
  obtain ⟨p1, p2⟩ := pow2_len L (by omega) (by omega)
  have hp0 : 0 < 2 ^ Lib.bitLen L := Nat.pow_pos (by decide)
  have hlow := fun y hy => bx_low y (Lib.bitLen L) hy (by omega)
  have hmod := fun y => Nat.mod_lt y hp0
  have hnp := npow L (by omega) (by omega)
  have hm1 : ((2 ^ Lib.bitLen L - 1 : Nat) : Int) = ((2 ^ Lib.bitLen L : Nat) : Int) - 1 := by omega
  rw [hm1] at hlow
  generalize (2 ^ Lib.bitLen L : Nat) = m at hp0 p2 hlow hmod hnp hm1
  clear hm1 p1
  have d4 : (L : Int).tdiv 4 = ((L / 4 : Nat) : Int) := rfl
  generalize hl : L / 4 = l at d4
  have i0 : (a : Int) + (l : Int) * 2 - 1 = ((a + l * 2 - 1 : Nat) : Int) := by omega
  simp (contextual := true) (maxSteps := 2000000) (disch := omega) [test_cx, rest_cx, gcall_cx, gcav_cx, -Int.not_lt, -Int.not_le, -Nat.not_lt, -Nat.not_le, -List.map_take, gd_in, gd_and, wr_i64, wr_u64, tL, h8, cl (hnp _), d4, nth_end, setEl_end, i0]
  refine (?key : ∀ (q i : Nat) (d' : Array α) (b1 x2 : Nat) (sb : Nat), a + l * 2 + 2 - i = q → a ≤ i → i < a + L → d'.size = n → b1 ≤ n → sb ≤ 1 → PermIn a (a + L) d d' → Run G c79_B0 (S79_0 (.sl A.length n 3 0 n lim) (.m (.i .i64 a)) (.m (.i .i64 L)) (.pt (A.length + (C.length + 1)) 1 0 0) (.m (.i .u64 m)) (.m (.i .i64 i)) [] (A ++ .cs ty 3 (rowA R d') b1 false :: (C ++ [rnR x2 sb]))) _) _ (a + l * 2 - 1) d b0 L 1 rfl (by omega) (by omega) hd h0 (Nat.le_refl _) (permIn_refl _ _ _)
  clear i0 hnp h0 b0
  refine indM (fun q : Nat => q) fun q ih i d' b1 x2 sb hq hai hil hd' hb1 hsb hp => ?_
  unfold c79_B0
  by_cases hi : i ≤ a + l * 2 + 1
  · have hi' : (i : Int) ≤ (a : Int) + (l : Int) * 2 + 1 := by omega
    simp (contextual := true) (maxSteps := 2000000) (disch := omega) [test_cx, rest_cx, gcall_cx, gcav_cx, -Int.not_lt, -Int.not_le, -Nat.not_lt, -Nat.not_le, -List.map_take, gd_in, gd_and, wr_i64, d4, hi']
    rw [callC_some]
    refine next_w _ _ sb hsb _ fun y b2 hy hb2 => ?_
    have hlo := hlow y hy
    have hmo := hmod y
    generalize y % m = o at hlo hmo
    by_cases ho : L ≤ o
    · have ho' : (L : Int) ≤ o := by omega
      obtain ⟨j, rfl⟩ : ∃ j, o = L + j := ⟨o - L, by omega⟩
      have tj : ((L + j : Nat) : Int) - L = j := by omega
      have tj' : (L : Int) + j - L = j := by omega
      have r1 := R.rd d' (i := i) (by omega)
      have r2 := R.rd d' (i := a + j) (by omega)
      have w1 := R.wr d' (i := i) d'[a + j]! (by omega)
      have w2 := R.wr (d'.setIfInBounds i d'[a + j]!) (i := a + j) d'[i]! (by simp; omega)
      have s1 : (d'.setIfInBounds i d'[a + j]!).size = n := by simp [hd']
      have hp2 : PermIn a (a + L) d (swp d' i (a + j)) := permIn_trans _ _ _ _ _ hp (swp_permIn _ _ _ _ _ hai hil (by omega) (by omega) (by omega))
      have es : swp d' i (a + j) = (d'.setIfInBounds i d'[a + j]!).setIfInBounds (a + j) d'[i]! := rfl
      have xj : ((a : Int) + j).toNat = a + j := by omega
      rw [es] at hp2
      have ih2 := ih (a + l * 2 + 2 - (i + 1)) (by omega) (i + 1) ((d'.setIfInBounds i d'[a + j]!).setIfInBounds (a + j) d'[i]!) n y b2 rfl (by omega) (by omega) (by simp [hd']) (Nat.le_refl _) hb2 hp2
      clear ih es
      generalize d'[i]! = z0 at *
      generalize d'[a + j]! = z1 at *
      simp (contextual := true) (maxSteps := 2000000) (disch := omega) [test_cx, rest_cx, gcall_cx, gcav_cx, -Int.not_lt, -Int.not_le, -Nat.not_lt, -Nat.not_le, -List.map_take, gd_in, gd_and, nth_mid, setEl_mid, R.ld, R.st, R.all1, R.len, -valOf_t, -mkAg_eq, wr_i64, wr_u64, hlo, ho', tj, tj', r1, r2, w1, w2, s1, hd', xj]
      exact ⟨fun _ => ih2, by omega⟩
    · have ho' : ¬ (L : Int) ≤ o := by omega
      have r1 := R.rd d' (i := i) (by omega)
      have r2 := R.rd d' (i := a + o) (by omega)
      have w1 := R.wr d' (i := i) d'[a + o]! (by omega)
      have w2 := R.wr (d'.setIfInBounds i d'[a + o]!) (i := a + o) d'[i]! (by simp; omega)
      have s1 : (d'.setIfInBounds i d'[a + o]!).size = n := by simp [hd']
      have hp2 : PermIn a (a + L) d (swp d' i (a + o)) := permIn_trans _ _ _ _ _ hp (swp_permIn _ _ _ _ _ hai hil (by omega) (by omega) (by omega))
      have es : swp d' i (a + o) = (d'.setIfInBounds i d'[a + o]!).setIfInBounds (a + o) d'[i]! := rfl
      have xo : ((a : Int) + o).toNat = a + o := by omega
      rw [es] at hp2
      have ih2 := ih (a + l * 2 + 2 - (i + 1)) (by omega) (i + 1) ((d'.setIfInBounds i d'[a + o]!).setIfInBounds (a + o) d'[i]!) n y b2 rfl (by omega) (by omega) (by simp [hd']) (Nat.le_refl _) hb2 hp2
      clear ih es
      generalize d'[i]! = z0 at *
      generalize d'[a + o]! = z1 at *
      simp (contextual := true) (maxSteps := 2000000) (disch := omega) [test_cx, rest_cx, gcall_cx, gcav_cx, -Int.not_lt, -Int.not_le, -Nat.not_lt, -Nat.not_le, -List.map_take, gd_in, gd_and, nth_mid, setEl_mid, R.ld, R.st, R.all1, R.len, -valOf_t, -mkAg_eq, wr_i64, wr_u64, hlo, ho', r1, r2, w1, w2, s1, hd', xo]
      exact ih2
  · have hi' : ¬ (i : Int) ≤ (a : Int) + (l : Int) * 2 + 1 := by omega
    simp (contextual := true) (maxSteps := 2000000) (disch := omega) [test_cx, rest_cx, gcall_cx, gcav_cx, -Int.not_lt, -Int.not_le, -Nat.not_lt, -Nat.not_le, -List.map_take, gd_in, gd_and, wr_i64, d4, hi']
    exact hQ d' b1 _ hp hb1
end
end Go.Mx.Tryz
