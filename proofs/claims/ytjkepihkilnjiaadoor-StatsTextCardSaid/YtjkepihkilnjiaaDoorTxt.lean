/- StatsText: both texts write the same lines. -/
import Derived.Test.YtjkepihkilnjiaaDoorItoa
import Derived.Test.YtjkepihkilnjiaaDoorBld
import Derived.Test.YtjkepihkilnjiaaDoorTxr
import Derived.Test.YtjkepihkilnjiaaDoorArg
import Derived.Test.YtjkepihkilnjiaaDoorAwake
set_option linter.unusedSimpArgs false
set_option linter.unusedVariables false
set_option linter.unusedSectionVars false
set_option maxRecDepth 100000
namespace Go.Mx.Tryd

set_option maxHeartbeats 1000000 in
theorem text_s {v : I} {p : List (List Int)} (hv : IsSl v (p.map stI)) (hp : ∀ l, l ∈ p → nine l) (hl : (p.length : Int) ≤ 100) (H : Hp) : Gives G 18 [.m v] H (.m (.s (txN p))) H := by
  refine gives_pur rfl rfl rfl rfl rfl ?_
  simp (contextual := true) (maxSteps := 2000000) (disch := omega) [test_cx, rest_cx, gcall_cx, gcav_cx, -Int.not_lt, -Int.not_le, -Nat.not_lt, -Nat.not_le, -List.map_take, gd_in, gd_and, hv.rules, List.length_map]
  refine (?key : ∀ (i : Nat) (B : List (Nat × List V)) (H : Hp) (qs : Option Nat), i ≤ p.length → Bldr 0 qs (txN (p.take i)) H → Run G c18_B1 (S18_1 (.pt 0 1 0 0) (.m v) (.m (.i .i64 p.length)) (.m (.i .i64 i)) B H) _) 0 [] _ none (Nat.zero_le _) (bld_new [] [])
  refine indM (fun i : Nat => p.length - i) fun i ih B H qs hi hB => ?_
  cases hx : p[i]? with
  | none =>
    have : i = p.length := by have := List.getElem?_eq_none_iff.1 hx; omega
    subst this
    rw [List.take_length] at hB
    have hlen := txN_len p hp
    obtain ⟨H', g, _⟩ := bld_get hB (by omega)
    unfold c18_B1
    simp (contextual := true) (maxSteps := 2000000) (disch := omega) [hv.rules, List.length_map, test_cx, rest_cx, gcall_cx, gcav_cx, -Int.not_lt, -Int.not_le, -Nat.not_lt, -Nat.not_le, -List.map_take, gd_in, gd_and, cl g]
  | some c =>
    have hlt := (get_drop hx).1
    have hn := sts_nth hx
    have hc : nine c := hp c (List.mem_of_getElem? hx)
    obtain ⟨c0, c1, c2, c3, c4, c5, c6, c7, c8, rfl⟩ : ∃ c0 c1 c2 c3 c4 c5 c6 c7 c8, c = [c0, c1, c2, c3, c4, c5, c6, c7, c8] := by
      match c, hc.1 with
      | [c0, c1, c2, c3, c4, c5, c6, c7, c8], _ => exact ⟨_, _, _, _, _, _, _, _, _, rfl⟩
    have ih := ih (i + 1) (by omega)
    simp only [take_succ_get hx, txN_snoc] at ih
    have hlen := txN_len (p.take i) fun l h => hp l (List.mem_of_mem_take h)
    have hti : (p.take i).length ≤ i := List.length_take_le i p
    generalize hs : txN (p.take i) = s at hlen ih hB ⊢
    simp only [stI, List.map_cons, List.map_nil] at hn
    unfold c18_B1
    simp (contextual := true) (maxSteps := 2000000) (disch := omega) [test_cx, rest_cx, gcall_cx, gcav_cx, -Int.not_lt, -Int.not_le, -Nat.not_lt, -Nat.not_le, -List.map_take, gd_in, gd_and, wr_i64, hv.rules, List.length_map, hn, hlt]
    refine (?key2 : ∀ (k : Nat) (B : List (Nat × List V)) (H : Hp) (qs : Option Nat), k ≤ 9 → Bldr 0 qs (s ++ itK [c0, c1, c2, c3, c4, c5, c6, c7, c8] k) H → Run G c18_B0 (S18_0 (.pt 0 1 0 0) (.m v) (.m (.i .i64 p.length)) (.m (.i .i64 i)) (.m (.ag [.i .i64 c0, .i .i64 c1, .i .i64 c2, .i .i64 c3, .i .i64 c4, .i .i64 c5, .i .i64 c6, .i .i64 c7, .i .i64 c8])) (.m (.i .i64 k)) B H) _) 0 _ H qs (Nat.zero_le _) (by simpa [itK] using hB)
    clear hB
    refine indM (fun k : Nat => 9 - k) fun k ih2 B H qs hk hB => ?_
    have hkl := itK_len hc k hk
    unfold c18_B0
    by_cases h9 : k = 9
    · subst h9
      obtain ⟨H1, q1, g1, hB1, _⟩ := bld_byte hB 10 (by omega) (by simp only [List.length_append]; omega)
      have g1' : Gives G 37 [.pt 0 1 0 0, .m (.i .u8 10)] H (.m (.nl 3)) H1 := g1
      simp (contextual := true) (maxSteps := 2000000) (disch := omega) [test_cx, rest_cx, gcall_cx, gcav_cx, -Int.not_lt, -Int.not_le, -Nat.not_lt, -Nat.not_le, -List.map_take, gd_in, gd_and, wr_i64, cl g1']
      have := ih B H1 q1 (by omega) (by simpa using hB1)
      simpa using this
    · obtain ⟨x, hxk, hx0, hx1⟩ := nine_at hc (k := k) (by omega)
      have hxt := takeN_at hxk
      simp only [stI, List.map_cons, List.map_nil] at hxt
      have hk9 : (k : Int) < 9 := by omega
      have ih3 := ih2 (k + 1) (by omega)
      have hxl := itoaN_len x hx0 hx1
      simp only [itK, hxk, Option.getD_some] at ih3
      by_cases h0 : 0 < k
      · obtain ⟨H1, q1, g1, hB1, _⟩ := bld_byte hB 32 (by omega) (by simp only [List.length_append]; omega)
        have g1' : Gives G 37 [.pt 0 1 0 0, .m (.i .u8 32)] H (.m (.nl 3)) H1 := g1
        obtain ⟨H2, q2, g2, hB2, _⟩ := bld_str hB1 (itoaN x) (itoaN_byte x) (by simp only [List.length_append, List.length_cons, List.length_nil]; omega)
        simp (contextual := true) (maxSteps := 2000000) (disch := omega) [test_cx, rest_cx, gcall_cx, gcav_cx, -Int.not_lt, -Int.not_le, -Nat.not_lt, -Nat.not_le, -List.map_take, gd_in, gd_and, wr_i64, hk9, h0, hxt, cl g1', cl (itoa_s x hx0 hx1 _), cl g2]
        have := ih3 B H2 q2 (by omega) (by rw [if_pos h0]; simpa using hB2)
        simpa using this
      · obtain ⟨H2, q2, g2, hB2, _⟩ := bld_str hB (itoaN x) (itoaN_byte x) (by simp only [List.length_append]; omega)
        simp (contextual := true) (maxSteps := 2000000) (disch := omega) [test_cx, rest_cx, gcall_cx, gcav_cx, -Int.not_lt, -Int.not_le, -Nat.not_lt, -Nat.not_le, -List.map_take, gd_in, gd_and, wr_i64, hk9, h0, hxt, cl (itoa_s x hx0 hx1 _), cl g2]
        have := ih3 B H2 q2 (by omega) (by rw [if_neg h0]; simpa using hB2)
        simpa using this

theorem law_text (hA : Gives G 8 [] [] (.m (.b true)) []) {v : I} {p : List (List Int)} (hv : IsSl v (p.map stI)) (hp : ∀ l, l ∈ p → nine l) : Gives G 6 [.m v] [] (.m (.b true)) [] := by
  refine gives_pur rfl rfl rfl rfl rfl ?_
  by_cases h : (100 : Int) < p.length
  · simp (contextual := true) (maxSteps := 2000000) (disch := omega) [test_cx, rest_cx, gcall_cx, gcav_cx, -Int.not_lt, -Int.not_le, -Nat.not_lt, -Nat.not_le, -List.map_take, gd_in, gd_and, hv.rules, List.length_map, h, cl hA]
  · have g1 := text_s hv hp (by omega) []
    have g2 := text_r hv hp (by omega) []
    simp (contextual := true) (maxSteps := 2000000) (disch := omega) [test_cx, rest_cx, gcall_cx, gcav_cx, -Int.not_lt, -Int.not_le, -Nat.not_lt, -Nat.not_le, -List.map_take, gd_in, gd_and, hv.rules, List.length_map, h, cl hA, cl g1, cl g2]
theorem fit_box {B n : Nat} {l : List I} (h : Fits Go.Proofs.Tryd.prog B (n + 2) 26 l) : ∃ x y w z : Int, l = [.i .i64 x, .i .i64 y, .i .i64 w, .i .i64 z] ∧ ∀ a, a ∈ [x, y, w, z] → -9223372036854775808 ≤ a ∧ a ≤ 9223372036854775807 := by
  unfold Fits at h
  rw [Go.Proofs.Tryd.underlying26] at h
  simp only [FitsF] at h
  obtain ⟨x1, y1, rfl, k1, x2, y2, rfl, k2, x3, y3, rfl, k3, x4, y4, rfl, k4, rfl⟩ := h
  obtain ⟨x, rfl, hx⟩ := fit_int k1
  obtain ⟨y, rfl, hy⟩ := fit_int k2
  obtain ⟨w, rfl, hw⟩ := fit_int k3
  obtain ⟨z, rfl, hz⟩ := fit_int k4
  exact ⟨x, y, w, z, rfl, fun a ha => by simp only [List.mem_cons, List.not_mem_nil, or_false] at ha; rcases ha with rfl | rfl | rfl | rfl <;> assumption⟩
theorem fit_stat {B n : Nat} {l : List I} (h : Fits Go.Proofs.Tryd.prog B (n + 3) 28 l) : ∃ d : List Int, l = stI d ∧ nine d := by
  unfold Fits at h
  rw [Go.Proofs.Tryd.underlying28] at h
  simp only [FitsF] at h
  obtain ⟨x1, y1, rfl, k1, x2, y2, rfl, k2, x3, y3, rfl, k3, x4, y4, rfl, k4, x5, y5, rfl, k5, x6, y6, rfl, k6, rfl⟩ := h
  obtain ⟨a, rfl, ha⟩ := fit_int k1
  obtain ⟨b, rfl, hb⟩ := fit_int k2
  obtain ⟨c, rfl, hc⟩ := fit_int k3
  obtain ⟨d, rfl, hd⟩ := fit_int k4
  obtain ⟨e, rfl, he⟩ := fit_int k5
  obtain ⟨x, y, w, z, rfl, hb4⟩ := fit_box k6
  refine ⟨[a, b, c, d, e, x, y, w, z], rfl, rfl, fun q hq => ?_⟩
  simp only [List.mem_cons, List.not_mem_nil, or_false] at hq hb4
  rcases hq with rfl | rfl | rfl | rfl | rfl | hq
  · exact ha
  · exact hb
  · exact hc
  · exact hd
  · exact he
  · exact hb4 q hq
theorem fit_stats {es : List (List I)} (h : ∀ x, x ∈ es → ∃ d : List Int, x = stI d ∧ nine d) : ∃ p : List (List Int), es = p.map stI ∧ ∀ l, l ∈ p → nine l := by
  induction es with
  | nil => exact ⟨[], rfl, fun _ h => by simp at h⟩
  | cons x r ih =>
    obtain ⟨d, rfl, hd⟩ := h x (by simp)
    obtain ⟨p, rfl, hp⟩ := ih fun x hx => h x (by simp [hx])
    refine ⟨d :: p, rfl, fun l hl => ?_⟩
    rcases List.mem_cons.1 hl with rfl | hl
    · exact hd
    · exact hp l hl
theorem stats_text (us : List V) (h : ArgsOk Go.Proofs.Tryd.prog maxLen 8 Go.Proofs.Tryd.f6.params.toList us) : Gives G 6 us [] (.m (.b true)) [] := by
  have e : Go.Proofs.Tryd.f6.params.toList = [41] := by rw [Go.Proofs.Tryd.params6]
  have h := e ▸ h
  obtain ⟨l1, r1, rfl, hl1, h1⟩ := argsOk_cons h
  have := argsOk_nil h1
  subst this
  have a1 : aggT Go.Proofs.Tryd.prog 41 = some false := by unfold aggT; rw [Go.Proofs.Tryd.underlying41]; rfl
  unfold Fits at hl1
  rw [Go.Proofs.Tryd.underlying41] at hl1
  simp only at hl1
  rcases hl1 with rfl | ⟨es, rfl, hle, hes⟩
  · rw [argV_one a1]
    exact law_text gives_awake (p := []) isSl_nil (fun _ h => by simp at h)
  · obtain ⟨p, rfl, hp⟩ := fit_stats fun x hx => fit_stat (hes x hx)
    rw [argV_one a1]
    exact law_text gives_awake (isSl_sl _) hp
end Go.Mx.Tryd
