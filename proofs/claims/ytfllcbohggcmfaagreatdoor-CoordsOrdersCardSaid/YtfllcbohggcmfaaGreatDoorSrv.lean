/- Sorting by a function at the machine, seventh part: the choice of the pivot. -/
import Derived.Test.YtfllcbohggcmfaaGreatDoorSru
set_option linter.unusedSimpArgs false
set_option linter.unusedVariables false
set_option linter.unusedSectionVars false
set_option maxRecDepth 100000
namespace Go.Mx.Tryz
open Go.Sort
section
variable {α : Type} [Inhabited α] {R : Rw α 3 true} {A C : Hp} {k : Nat} {lt : α → α → Bool} (W : Cmp R A k lt) (hC : W.ok C) {ty n : Nat} {lim : Bool}

/-- The row of a counter. -/
abbrev swR (s : Int) (b : Nat) : Row := .cs 3 1 [[.m (.i .i64 s)]] b false
theorem nth_end (A : Hp) (r : Row) (C : Hp) (x : Row) : nth (A ++ r :: (C ++ [x])) (A.length + (C.length + 1)) = some x := by
  rw [nth_get, List.getElem?_append_right (by omega)]
  simp [List.getElem?_append_right]
theorem setEl_end (A : Hp) (r : Row) (C : Hp) (x y : Row) : setEl (A ++ r :: (C ++ [x])) (A.length + (C.length + 1)) y = some (A ++ r :: (C ++ [y])) := by
  rw [setEl_put _ _ _ (by simp)]
  congr 1
  rw [List.set_append_right _ _ (by omega)]
  have e : A.length + (C.length + 1) - A.length = C.length + 1 := by omega
  rw [e]
  simp [List.set_append_right]
include W hC in
theorem ord2_w (d : Array α) (a b b0 sb : Nat) (s : Int) (ha : a < n) (hb : b < n) (hd : d.size = n) (h0 : b0 ≤ n) (hn : n ≤ 1000000000) (hsb : sb ≤ 1) (Q : V → Hp → Prop)
    (hQ : ∀ (x y : Nat) (s' : Int) (sb' : Nat), (x = a ∧ y = b ∨ x = b ∧ y = a) → sb' ≤ 1 → Q (.tu [.m (.i .i64 x), .m (.i .i64 y)]) (A ++ .cs ty 3 (rowA R d) b0 false :: (C ++ [swR s' sb']))) :
    Ret G 126 [.sl A.length n 3 0 n lim, .m (.i .i64 a), .m (.i .i64 b), .pt (A.length + (C.length + 1)) 1 0 0, .m (.fn k [])] (A ++ .cs ty 3 (rowA R d) b0 false :: (C ++ [swR s sb])) Q := by
  refine ret_sh mono rfl rfl rfl rfl rfl ?_
  have r1 := R.rd d (i := a) (by omega)
  have r2 := R.rd d (i := b) (by omega)
  have q := fun row => W.run d[b]! d[a]! row (C ++ [swR s sb]) (W.ext _ _ hC)
  have e := W.neg d[b]! d[a]!
  generalize d[a]! = u at *
  generalize d[b]! = w at *
  simp (contextual := true) (maxSteps := 2000000) (disch := omega) [test_cx, rest_cx, gcall_cx, gcav_cx, -Int.not_lt, -Int.not_le, -Nat.not_lt, -Nat.not_le, -List.map_take, gd_in, gd_and, nth_mid, setEl_mid, R.ld, R.st, R.all1, R.len, -valOf_t, -mkAg_eq, r1, r2, cl (q _), e, hd, nth_end, setEl_end, hsb]
  refine ⟨fun l => ?_, fun l => ?_⟩
  · exact hQ b a _ 1 (.inr ⟨rfl, rfl⟩) (Nat.le_refl _)
  · exact hQ a b s sb (.inl ⟨rfl, rfl⟩) hsb
include W hC in
theorem med_w (d : Array α) (a b c b0 sb : Nat) (s : Int) (ha : a < n) (hb : b < n) (hc : c < n) (hd : d.size = n) (h0 : b0 ≤ n) (hn : n ≤ 1000000000) (hsb : sb ≤ 1) (Q : V → Hp → Prop)
    (hQ : ∀ (x : Nat) (s' : Int) (sb' : Nat), (x = a ∨ x = b ∨ x = c) → sb' ≤ 1 → Q (.m (.i .i64 x)) (A ++ .cs ty 3 (rowA R d) b0 false :: (C ++ [swR s' sb']))) :
    Ret G 112 [.sl A.length n 3 0 n lim, .m (.i .i64 a), .m (.i .i64 b), .m (.i .i64 c), .pt (A.length + (C.length + 1)) 1 0 0, .m (.fn k [])] (A ++ .cs ty 3 (rowA R d) b0 false :: (C ++ [swR s sb])) Q := by
  refine ret_sh mono rfl rfl rfl rfl rfl ?_
  simp (contextual := true) (maxSteps := 2000000) (disch := omega) [test_cx, rest_cx, gcall_cx, gcav_cx, -Int.not_lt, -Int.not_le, -Nat.not_lt, -Nat.not_le, -List.map_take, gd_in, gd_and]
  rw [callC_some]
  refine ord2_w W hC d a b b0 sb s ha hb hd h0 hn hsb _ fun x1 y1 s1 sb1 h1 hs1 => ?_
  simp (contextual := true) (maxSteps := 2000000) (disch := omega) [test_cx, rest_cx, gcall_cx, gcav_cx, -Int.not_lt, -Int.not_le, -Nat.not_lt, -Nat.not_le, -List.map_take, gd_in, gd_and]
  rw [callC_some]
  refine ord2_w W hC d y1 c b0 sb1 s1 (by omega) hc hd h0 hn hs1 _ fun y2 z2 s2 sb2 h2 hs2 => ?_
  simp (contextual := true) (maxSteps := 2000000) (disch := omega) [test_cx, rest_cx, gcall_cx, gcav_cx, -Int.not_lt, -Int.not_le, -Nat.not_lt, -Nat.not_le, -List.map_take, gd_in, gd_and]
  rw [callC_some]
  refine ord2_w W hC d x1 y2 b0 sb2 s2 (by omega) (by omega) hd h0 hn hs2 _ fun x3 y3 s3 sb3 h3 hs3 => ?_
  simp (contextual := true) (maxSteps := 2000000) (disch := omega) [test_cx, rest_cx, gcall_cx, gcav_cx, -Int.not_lt, -Int.not_le, -Nat.not_lt, -Nat.not_le, -List.map_take, gd_in, gd_and]
  exact hQ y3 s3 sb3 (by omega) hs3
include W hC in
theorem adj_w (d : Array α) (a b0 sb : Nat) (s : Int) (ha1 : 1 ≤ a) (ha : a + 1 < n) (hd : d.size = n) (h0 : b0 ≤ n) (hn : n ≤ 1000000000) (hsb : sb ≤ 1) (Q : V → Hp → Prop)
    (hQ : ∀ (x : Nat) (s' : Int) (sb' : Nat), (a - 1 ≤ x ∧ x ≤ a + 1) → sb' ≤ 1 → Q (.m (.i .i64 x)) (A ++ .cs ty 3 (rowA R d) b0 false :: (C ++ [swR s' sb']))) :
    Ret G 111 [.sl A.length n 3 0 n lim, .m (.i .i64 a), .pt (A.length + (C.length + 1)) 1 0 0, .m (.fn k [])] (A ++ .cs ty 3 (rowA R d) b0 false :: (C ++ [swR s sb])) Q := by
  refine ret_sh mono rfl rfl rfl rfl rfl ?_
  obtain ⟨m, rfl⟩ : ∃ m, a = m + 1 := ⟨a - 1, by omega⟩
  have t1 : (m : Int) + 1 - 1 = m := by omega
  simp (contextual := true) (maxSteps := 2000000) (disch := omega) [test_cx, rest_cx, gcall_cx, gcav_cx, -Int.not_lt, -Int.not_le, -Nat.not_lt, -Nat.not_le, -List.map_take, gd_in, gd_and, wr_i64, t1]
  rw [callC_some]
  refine med_w W hC d m (m + 1) (m + 1 + 1) b0 sb s (by omega) (by omega) (by omega) hd h0 hn hsb _ fun x s1 sb1 h1 hs1 => ?_
  simp (contextual := true) (maxSteps := 2000000) (disch := omega) [test_cx, rest_cx, gcall_cx, gcav_cx, -Int.not_lt, -Int.not_le, -Nat.not_lt, -Nat.not_le, -List.map_take, gd_in, gd_and]
  exact hQ x s1 sb1 (by omega) hs1
include W hC in
theorem piv_w (d : Array α) (a b b0 : Nat) (hab : a + 8 ≤ b) (hb : b ≤ n) (hd : d.size = n) (h0 : b0 ≤ n) (hn : n ≤ 1000000000) (Q : V → Hp → Prop)
    (hQ : ∀ (x : Nat) (h : Int) (X : Hp), a ≤ x → x < b → Q (.tu [.m (.i .i64 x), .m (.i .i64 h)]) (A ++ .cs ty 3 (rowA R d) b0 false :: (C ++ X))) :
    Ret G 80 [.sl A.length n 3 0 n lim, .m (.i .i64 a), .m (.i .i64 b), .m (.fn k [])] (A ++ .cs ty 3 (rowA R d) b0 false :: C) Q := by
  refine ret_sh mono rfl rfl rfl rfl rfl ?_
  have e1 : ((b : Int) - a).tdiv 4 = (((b - a) / 4 : Nat) : Int) := by
    rw [show (b : Int) - a = ((b - a : Nat) : Int) by omega]; rfl
  generalize hl : (b - a) / 4 = l at e1
  have h8 : (8 : Int) ≤ (b : Int) - a := by omega
  have c1 : (a : Int) + l = ((a + l : Nat) : Int) := by omega
  have c2 : (a : Int) + (l : Int) * 2 = ((a + l * 2 : Nat) : Int) := by omega
  have c3 : (a : Int) + (l : Int) * 3 = ((a + l * 3 : Nat) : Int) := by omega
  by_cases h50 : (50 : Int) ≤ (b : Int) - a
  · simp (contextual := true) (maxSteps := 2000000) (disch := omega) [test_cx, rest_cx, gcall_cx, gcav_cx, -Int.not_lt, -Int.not_le, -Nat.not_lt, -Nat.not_le, -List.map_take, gd_in, gd_and, wr_i64, e1, h8, h50]
    rw [callC_some, c1]
    refine adj_w W hC d (a + l) b0 0 0 (by omega) (by omega) hd h0 hn (by omega) _ fun x1 s1 sb1 h1 hs1 => ?_
    simp (contextual := true) (maxSteps := 2000000) (disch := omega) [test_cx, rest_cx, gcall_cx, gcav_cx, -Int.not_lt, -Int.not_le, -Nat.not_lt, -Nat.not_le, -List.map_take, gd_in, gd_and]
    rw [callC_some, c2]
    refine adj_w W hC d (a + l * 2) b0 sb1 s1 (by omega) (by omega) hd h0 hn hs1 _ fun x2 s2 sb2 h2 hs2 => ?_
    simp (contextual := true) (maxSteps := 2000000) (disch := omega) [test_cx, rest_cx, gcall_cx, gcav_cx, -Int.not_lt, -Int.not_le, -Nat.not_lt, -Nat.not_le, -List.map_take, gd_in, gd_and]
    rw [callC_some, c3]
    refine adj_w W hC d (a + l * 3) b0 sb2 s2 (by omega) (by omega) hd h0 hn hs2 _ fun x3 s3 sb3 h3 hs3 => ?_
    simp (contextual := true) (maxSteps := 2000000) (disch := omega) [test_cx, rest_cx, gcall_cx, gcav_cx, -Int.not_lt, -Int.not_le, -Nat.not_lt, -Nat.not_le, -List.map_take, gd_in, gd_and]
    rw [callC_some]
    refine med_w W hC d x1 x2 x3 b0 sb3 s3 (by omega) (by omega) (by omega) hd h0 hn hs3 _ fun x s' sb' hx hs => ?_
    simp (contextual := true) (maxSteps := 2000000) (disch := omega) [test_cx, rest_cx, gcall_cx, gcav_cx, -Int.not_lt, -Int.not_le, -Nat.not_lt, -Nat.not_le, -List.map_take, gd_in, gd_and, nth_end]
    exact ⟨fun _ => hQ x _ [_] (by omega) (by omega), fun _ => ⟨fun _ => hQ x _ [_] (by omega) (by omega), fun _ => hQ x _ [_] (by omega) (by omega)⟩⟩
  · simp (contextual := true) (maxSteps := 2000000) (disch := omega) [test_cx, rest_cx, gcall_cx, gcav_cx, -Int.not_lt, -Int.not_le, -Nat.not_lt, -Nat.not_le, -List.map_take, gd_in, gd_and, wr_i64, e1, h8, h50]
    rw [callC_some, c1, c2, c3]
    refine med_w W hC d (a + l) (a + l * 2) (a + l * 3) b0 0 0 (by omega) (by omega) (by omega) hd h0 hn (by omega) _ fun x s' sb' hx hs => ?_
    simp (contextual := true) (maxSteps := 2000000) (disch := omega) [test_cx, rest_cx, gcall_cx, gcav_cx, -Int.not_lt, -Int.not_le, -Nat.not_lt, -Nat.not_le, -List.map_take, gd_in, gd_and, nth_end]
    exact ⟨fun _ => hQ x _ [_] (by omega) (by omega), fun _ => ⟨fun _ => hQ x _ [_] (by omega) (by omega), fun _ => hQ x _ [_] (by omega) (by omega)⟩⟩
end
end Go.Mx.Tryz
