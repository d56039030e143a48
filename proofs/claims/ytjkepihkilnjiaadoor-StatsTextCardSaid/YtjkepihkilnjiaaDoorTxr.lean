/- StatsText: the reference's lines. -/
import Derived.Test.YtjkepihkilnjiaaDoorDec
set_option linter.unusedSimpArgs false
set_option linter.unusedVariables false
set_option linter.unusedSectionVars false
set_option maxRecDepth 100000
namespace Go.Mx.Tryd

/-- The first k numbers, with spaces between them. -/
def itK (l : List Int) : Nat → List Nat
  | 0 => []
  | k + 1 => itK l k ++ ((if 0 < k then [32] else []) ++ itoaN ((l[k]?).getD 0))
def txN : List (List Int) → List Nat
  | [] => []
  | l :: r => (itK l 9 ++ [10]) ++ txN r
/-- A row of nine numbers. -/
def nine (l : List Int) : Prop := l.length = 9 ∧ ∀ x, x ∈ l → -9223372036854775808 ≤ x ∧ x ≤ 9223372036854775807
def stI (l : List Int) : List I := l.map (.i .i64)
theorem nine_at {l : List Int} (h : nine l) {k : Nat} (hk : k < 9) : ∃ x, l[k]? = some x ∧ -9223372036854775808 ≤ x ∧ x ≤ 9223372036854775807 := by
  have hl : k < l.length := by rw [h.1]; exact hk
  exact ⟨l[k], List.getElem?_eq_getElem hl, h.2 _ (List.getElem_mem hl)⟩
theorem itK_len {l : List Int} (h : nine l) : ∀ k, k ≤ 9 → (itK l k).length ≤ 22 * k
  | 0, _ => by simp [itK]
  | k + 1, hk => by
    obtain ⟨x, hx, h0, h1⟩ := nine_at h (k := k) (by omega)
    have ih := itK_len h k (by omega)
    have h2 := itoaN_len x h0 h1
    simp only [itK, hx, Option.getD_some, List.length_append]
    by_cases hp : 0 < k <;> simp [hp] <;> omega
theorem itK_byte (l : List Int) : ∀ k c, c ∈ itK l k → c < 256
  | 0, c, h => by simp [itK] at h
  | k + 1, c, h => by
    simp only [itK, List.mem_append] at h
    rcases h with h | h | h
    · exact itK_byte l k c h
    · by_cases hp : 0 < k <;> simp [hp] at h; omega
    · exact itoaN_byte _ c h
theorem txN_snoc : ∀ (r : List (List Int)) (l : List Int), txN (r ++ [l]) = txN r ++ (itK l 9 ++ [10])
  | [], l => by simp [txN]
  | a :: r, l => by
    show (itK a 9 ++ [10]) ++ txN (r ++ [l]) = (itK a 9 ++ [10]) ++ txN r ++ (itK l 9 ++ [10])
    rw [txN_snoc r l]; simp
theorem txN_len : ∀ (r : List (List Int)), (∀ l, l ∈ r → nine l) → (txN r).length ≤ 199 * r.length
  | [], _ => by simp [txN]
  | a :: r, h => by
    have h1 := itK_len (h a (by simp)) 9 (Nat.le_refl _)
    have h2 := txN_len r fun l hl => h l (by simp [hl])
    show ((itK a 9 ++ [10]) ++ txN r).length ≤ _
    simp only [List.length_append, List.length_cons, List.length_nil]
    omega
theorem sts_nth {p : List (List Int)} {i : Nat} {c : List Int} (h : p[i]? = some c) : nth (p.map stI) i = some (stI c) := by
  rw [nth_get]; simp [h]
theorem takeN_at {l : List Int} {k : Nat} {x : Int} (h : l[k]? = some x) : takeN 1 (((stI l).map V.m).drop k) = some [.m (.i .i64 x)] := by
  obtain ⟨hk, rfl⟩ := List.getElem?_eq_some_iff.1 h
  have : ((stI l).map V.m).drop k = .m (.i .i64 l[k]) :: ((stI l).map V.m).drop (k + 1) := by
    rw [List.drop_eq_getElem_cons (by simpa [stI] using hk)]
    simp [stI]
  rw [this]; simp

set_option maxHeartbeats 2000000 in
theorem text_r {v : I} {p : List (List Int)} (hv : IsSl v (p.map stI)) (hp : ∀ l, l ∈ p → nine l) (hl : (p.length : Int) ≤ 100) (H : Hp) : Gives G 19 [.m v] H (.m (.s (txN p))) H := by
  refine gives_pur rfl rfl rfl rfl rfl ?_
  simp (contextual := true) (maxSteps := 2000000) (disch := omega) [test_cx, rest_cx, gcall_cx, gcav_cx, -Int.not_lt, -Int.not_le, -Nat.not_lt, -Nat.not_le, -List.map_take, gd_in, gd_and, wr_i64]
  refine (?key : ∀ (i : Nat), i ≤ p.length → Run G c19_B1 (S19_1 (.m v) (.m (.s (txN (p.take i)))) (.m (.i .i64 i)) [] []) _) 0 (Nat.zero_le _)
  refine indM (fun i : Nat => p.length - i) fun i ih hi => ?_
  cases hx : p[i]? with
  | none =>
    have : i = p.length := by have := List.getElem?_eq_none_iff.1 hx; omega
    subst this
    unfold c19_B1
    simp (contextual := true) (maxSteps := 2000000) (disch := omega) [hv.rules, List.length_map, test_cx, rest_cx, gcall_cx, gcav_cx, -Int.not_lt, -Int.not_le, -Nat.not_lt, -Nat.not_le, -List.map_take, gd_in, gd_and]
  | some c =>
    have hlt := (get_drop hx).1
    have hn := sts_nth hx
    have hc : nine c := hp c (List.mem_of_getElem? hx)
    obtain ⟨c0, c1, c2, c3, c4, c5, c6, c7, c8, rfl⟩ : ∃ c0 c1 c2 c3 c4 c5 c6 c7 c8, c = [c0, c1, c2, c3, c4, c5, c6, c7, c8] := by
      match c, hc.1 with
      | [c0, c1, c2, c3, c4, c5, c6, c7, c8], _ => exact ⟨_, _, _, _, _, _, _, _, _, rfl⟩
    have ih := ih (i + 1) (by omega) (by omega)
    simp only [take_succ_get hx, txN_snoc] at ih
    have hlen := txN_len (p.take i) fun l h => hp l (List.mem_of_mem_take h)
    have hti : (p.take i).length ≤ i := List.length_take_le i p
    generalize hs : txN (p.take i) = s at hlen ih ⊢
    simp only [stI, List.map_cons, List.map_nil] at hn
    unfold c19_B1
    simp (contextual := true) (maxSteps := 2000000) (disch := omega) [test_cx, rest_cx, gcall_cx, gcav_cx, -Int.not_lt, -Int.not_le, -Nat.not_lt, -Nat.not_le, -List.map_take, gd_in, gd_and, wr_i64, hv.rules, List.length_map, hn, hlt]
    have e0 : V.m (.s s) = V.m (.s (s ++ itK [c0, c1, c2, c3, c4, c5, c6, c7, c8] 0)) := by simp [itK]
    rw [e0]
    refine (?key2 : ∀ (k : Nat), k ≤ 9 → Run G c19_B0 (S19_0 (.m v) (.m (.s (s ++ itK [c0, c1, c2, c3, c4, c5, c6, c7, c8] k))) (.m (.i .i64 i)) (.ls [[.i .i64 c0], [.i .i64 c1], [.i .i64 c2], [.i .i64 c3], [.i .i64 c4], [.i .i64 c5], [.i .i64 c6], [.i .i64 c7], [.i .i64 c8]]) (.m (.i .i64 k)) [] []) _) 0 (Nat.zero_le _)
    refine indM (fun k : Nat => 9 - k) fun k ih2 hk => ?_
    have hkl := itK_len hc k hk
    unfold c19_B0
    by_cases h9 : k = 9
    · subst h9
      have e1 : ([10] : List Nat).length = 1 := rfl
      simp (contextual := true) (maxSteps := 2000000) (disch := omega) [test_cx, rest_cx, gcall_cx, gcav_cx, -Int.not_lt, -Int.not_le, -Nat.not_lt, -Nat.not_le, -List.map_take, gd_in, gd_and, wr_i64]
      simpa using ih
    · obtain ⟨x, hxk, hx0, hx1⟩ := nine_at hc (k := k) (by omega)
      have hx9 : nth [[I.i .i64 c0], [.i .i64 c1], [.i .i64 c2], [.i .i64 c3], [.i .i64 c4], [.i .i64 c5], [.i .i64 c6], [.i .i64 c7], [.i .i64 c8]] k = some [.i .i64 x] := by
        have := sts_nth (p := [[c0], [c1], [c2], [c3], [c4], [c5], [c6], [c7], [c8]]) (i := k) (c := [x]) (by
          have : ([[c0], [c1], [c2], [c3], [c4], [c5], [c6], [c7], [c8]] : List (List Int)) = [c0, c1, c2, c3, c4, c5, c6, c7, c8].map fun y => [y] := rfl
          rw [this, List.getElem?_map, hxk]; rfl)
        exact this
      have hk9 : (k : Int) < 9 := by omega
      have ih3 := ih2 (k + 1) (by omega) (by omega)
      have hxl := itoaN_len x hx0 hx1
      simp only [itK, hxk, Option.getD_some] at ih3
      have e1 : ([32] : List Nat).length = 1 := rfl
      simp (contextual := true) (maxSteps := 2000000) (disch := omega) [test_cx, rest_cx, gcall_cx, gcav_cx, -Int.not_lt, -Int.not_le, -Nat.not_lt, -Nat.not_le, -List.map_take, gd_in, gd_and, wr_i64, hk9, hx9, cl (sgn39 x hx0 hx1 [])]
      refine ⟨fun h => ?_, fun h => ?_⟩
      · rw [if_pos (by omega)] at ih3
        simpa using ih3
      · rw [if_neg (by omega)] at ih3
        simpa using ih3
end Go.Mx.Tryd
