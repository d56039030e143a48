/- Eval of both texts; FormulaRights. -/
import Derived.Test.YtcdcepfigjohfaaGreatDoorFp
set_option linter.unusedSimpArgs false
set_option linter.unusedVariables false
set_option linter.unusedSectionVars false
set_option maxRecDepth 100000
namespace Go.Mx.Tryz

def evalV (n : Int) (zs : List I) (vs : List Bool) : V := if frm n zs = true ∧ (vs.length : Int) = n then .tu [.m (.b (evalB zs vs)), .m (.i .i64 0)] else .tu [.m (.b false), .m (.i .i64 2)]

theorem slCells {y : I} {es : List (List I)} (h : IsSl y es) : cellsV (.m y) = some [.m y] := by
  rcases h with rfl | ⟨rfl, _⟩ <;> rfl

theorem frm_lits {n : Int} {zs : List I} (h : frm n zs = true) : n ≤ 65536 ∧ ∀ z, z ∈ zs → lits n (dI z) = true := by
  unfold frm at h
  simp only [Bool.and_eq_true, decide_eq_true_eq, List.all_eq_true] at h
  exact ⟨h.1.2.1, h.2⟩

theorem eval_s {v z : I} {vs : List Bool} {zs : List I} (hv : IsSl v (celB vs)) (hz : IsSl z (ones zs)) (hc : Cls zs) (hl : zs.length ≤ 9223372036854775807) (hl' : vs.length ≤ 9223372036854775807) (n : Int) (H : Hp) :
    Gives G 11 [.m (.ag [.i .i64 n, z]), .m v] H (evalV n zs vs) H := by
  refine gives_pur rfl rfl rfl rfl rfl ?_
  simp (contextual := true) (maxSteps := 2000000) (disch := omega) [test_cx, rest_cx, gcall_cx, gcav_cx, -Int.not_lt, -Int.not_le, -Nat.not_lt, -Nat.not_le, -List.map_take, hz.rules, hv.rules, slCells hv, cl (right_s hz hc hl n _)]
  refine ⟨fun h1 => ?_, fun h1 => ?_⟩
  · by_cases hn : (vs.length : Int) = n
    · subst hn
      obtain ⟨h65, hls⟩ := frm_lits h1
      have ev : evalV vs.length zs vs = .tu [.m (.b (evalB zs vs)), .m (.i .i64 0)] := if_pos ⟨h1, rfl⟩
      simp (contextual := true) (maxSteps := 2000000) (disch := omega) [test_cx, rest_cx, gcall_cx, gcav_cx, -Int.not_lt, -Int.not_le, -Nat.not_lt, -Nat.not_le, -List.map_take, hz.rules, hv.rules]
      refine (?key : ∀ (i : Nat) (B : List (Nat × List V)), i ≤ zs.length → evalB zs vs = evalB (zs.drop i) vs → Run G c11_B0 (S11_0 (.pt 0 1 0 0) (.m z) (.m (.i .i64 zs.length)) (.m (.i .i64 i)) B [.cs 25 1 [[.m v]] 0 false]) _) 0 _ (Nat.zero_le _) rfl
      refine indM (fun i : Nat => zs.length - i) fun i ih B hi hr => ?_
      unfold c11_B0
      cases hx : zs[i]? with
      | none =>
        have : i = zs.length := by have := List.getElem?_eq_none_iff.1 hx; omega
        subst this
        have hr : evalB zs vs = true := by rw [hr, List.drop_length]; rfl
        simp [hz.rules, hr, ev]
      | some y =>
        have hlt := (get_drop hx).1
        have hn := ones_nth hx
        have hy := hc y (List.mem_of_getElem? hx)
        have hcn := gives_view (vs := [.m y, .fn 29 [.pt 0 1 0 0]]) (H := [.cs 25 1 [[.m v]] 0 false]) rfl rfl (contains_s hv (by omega) hy.1 hy.2 (hls y (List.mem_of_getElem? hx)) []) rfl (.inr ⟨by simp [refs, ref1], rfl⟩)
        rw [(get_drop hx).2] at hr
        have hg : evalB (y :: zs.drop (i + 1)) vs = (evF1 vs (dI y) && evalB (zs.drop (i + 1)) vs) := rfl
        rw [hg] at hr
        simp (contextual := true) (maxSteps := 2000000) (disch := omega) [test_cx, rest_cx, gcall_cx, gcav_cx, -Int.not_lt, -Int.not_le, -Nat.not_lt, -Nat.not_le, -List.map_take, hz.rules, hn, hlt, wr_i64, cl hcn]
        repeat' first | with_reducible apply And.intro | intro _
        all_goals first
          | (refine ih (i + 1) (by omega) _ (by omega) ?_; grind)
          | simp_all
    · have ev : evalV n zs vs = .tu [.m (.b false), .m (.i .i64 2)] := if_neg fun h => hn h.2
      simp (contextual := true) (maxSteps := 2000000) (disch := omega) [test_cx, rest_cx, gcall_cx, gcav_cx, -Int.not_lt, -Int.not_le, -Nat.not_lt, -Nat.not_le, -List.map_take, hz.rules, hv.rules, hn, ev]
  · have ev : evalV n zs vs = .tu [.m (.b false), .m (.i .i64 2)] := if_neg fun h => by simp [h1] at h
    simp [ev]

theorem lit_m {vs : List Bool} (hl : vs.length ≤ 65536) {x : Int} (h : lit vs.length x = true) : ∃ (m : Nat) (b : Bool), m < vs.length ∧ nth (celB vs) m = some [.b b] ∧ max x (-x) = (m : Int) + 1 ∧ wr .i64 (-x) = -x ∧ wr .i64 (m : Int) = m ∧ lit1 vs x = (b == decide (0 < x)) := by
  obtain ⟨b, hb, he⟩ := lit_place h
  have hn := celB_nth hb
  unfold lit at h
  simp only [decide_eq_true_eq] at h
  obtain ⟨m, hm, e2⟩ : ∃ m : Nat, (if x < 0 then -x else x) - 1 = (m : Int) ∧ max x (-x) = (m : Int) + 1 := by
    by_cases hx : x < 0
    · rw [if_pos hx]; exact ⟨(-x - 1).toNat, by omega, by omega⟩
    · rw [if_neg hx]; exact ⟨(x - 1).toNat, by omega, by omega⟩
  have hml : m < vs.length := by
    have := (List.getElem?_eq_some_iff.1 hb).1
    rw [hm] at this
    simpa using this
  rw [hm, Int.toNat_natCast] at hn
  exact ⟨m, b, hml, hn, e2, wr_i64 (by omega) (by omega), wr_i64n m (by omega), he⟩

set_option maxHeartbeats 1000000 in
theorem eval_r {v z : I} {vs : List Bool} {zs : List I} (hv : IsSl v (celB vs)) (hz : IsSl z (ones zs)) (hc : Cls zs) (hl : zs.length ≤ 9223372036854775807) (hl' : vs.length ≤ 9223372036854775807) (n : Int) (H : Hp) :
    Gives G 12 [.m (.ag [.i .i64 n, z]), .m v] H (evalV n zs vs) H := by
  refine gives_pur rfl rfl rfl rfl rfl ?_
  simp (contextual := true) (maxSteps := 2000000) (disch := omega) [test_cx, rest_cx, gcall_cx, gcav_cx, -Int.not_lt, -Int.not_le, -Nat.not_lt, -Nat.not_le, -List.map_take, hz.rules, hv.rules, slCells hv, cl (right_r hz hc hl n _)]
  refine ⟨fun h1 => ?_, fun h1 => ?_⟩
  · by_cases hn : (vs.length : Int) = n
    · subst hn
      obtain ⟨h65, hls⟩ := frm_lits h1
      have ev : evalV vs.length zs vs = .tu [.m (.b (evalB zs vs)), .m (.i .i64 0)] := if_pos ⟨h1, rfl⟩
      simp (contextual := true) (maxSteps := 2000000) (disch := omega) [test_cx, rest_cx, gcall_cx, gcav_cx, -Int.not_lt, -Int.not_le, -Nat.not_lt, -Nat.not_le, -List.map_take, hz.rules, hv.rules]
      refine (?key : ∀ (i : Nat) (B : List (Nat × List V)), i ≤ zs.length → getB B 2 = some [.m (.i .i64 vs.length), .m z] → evalB zs vs = evalB (zs.drop i) vs → Run G c12_B1 (S12_1 (.m v) (.fa 2 0) (.m (.i .i64 i)) B []) _) 0 _ (Nat.zero_le _) rfl rfl
      refine indM (fun i : Nat => zs.length - i) fun i ih B hi hB hr => ?_
      unfold c12_B1
      cases hx : zs[i]? with
      | none =>
        have : i = zs.length := by have := List.getElem?_eq_none_iff.1 hx; omega
        subst this
        have hr : evalB zs vs = true := by rw [hr, List.drop_length]; rfl
        simp [hz.rules, hr, ev, hB]
      | some y =>
        have hlt := (get_drop hx).1
        have hn := ones_nth hx
        have hy := hc y (List.mem_of_getElem? hx)
        have hly := hls y (List.mem_of_getElem? hx)
        rw [(get_drop hx).2] at hr
        have hg : evalB (y :: zs.drop (i + 1)) vs = (evF1 vs (dI y) && evalB (zs.drop (i + 1)) vs) := rfl
        rw [hg] at hr
        simp (contextual := true) (maxSteps := 2000000) (disch := omega) [test_cx, rest_cx, gcall_cx, gcav_cx, -Int.not_lt, -Int.not_le, -Nat.not_lt, -Nat.not_le, -List.map_take, hz.rules, hn, hlt, wr_i64, hB]
        refine (?key2 : ∀ (j : Nat) (B : List (Nat × List V)) (q : Bool), j ≤ (dI y).length → getB B 2 = some [.m (.i .i64 vs.length), .m z] → evF1 vs (dI y) = (q || evF1 vs ((dI y).drop j)) → Run G c12_B0 (S12_0 (.m v) (.fa 2 0) (.m (.i .i64 i)) (.m (.b q)) (.m (.i .i64 j)) B []) _) 0 _ false (Nat.zero_le _) (by simpa using hB) rfl
        refine indM (fun j : Nat => (dI y).length - j) fun j ihj B q hj hB hq => ?_
        unfold c12_B0
        cases hxj : (dI y)[j]? with
        | none =>
          have : j = (dI y).length := by have := List.getElem?_eq_none_iff.1 hxj; omega
          subst this
          have hq : evF1 vs (dI y) = q := by rw [hq, List.drop_length]; simp [evF1]
          have hyl := hy.2
          rw [hq] at hr
          simp (contextual := true) (maxSteps := 2000000) (disch := omega) [test_cx, rest_cx, gcall_cx, gcav_cx, -Int.not_lt, -Int.not_le, -Nat.not_lt, -Nat.not_le, -List.map_take, hz.rules, hy.1.rules, hn, hlt, wr_i64, hB]
          repeat' first | with_reducible apply And.intro | intro _
          all_goals first
            | (refine ih (i + 1) (by omega) _ (by omega) (by simpa using hB) ?_; simp_all; done)
            | simp_all
        | some x =>
          have hltj := (get_drop hxj).1
          have hyr := hy.1.rules
          have hnj := celI_nth hxj
          have hyl := hy.2
          have hlx : lit vs.length x = true := by
            unfold lits at hly
            rw [List.all_eq_true] at hly
            exact hly x (List.mem_of_getElem? hxj)
          obtain ⟨m, b, k1, k2, k3, k4, k5, k6⟩ := lit_m (by omega) hlx
          rw [(get_drop hxj).2] at hq
          have hg : evF1 vs (x :: (dI y).drop (j + 1)) = (lit1 vs x || evF1 vs ((dI y).drop (j + 1))) := rfl
          rw [hg, k6] at hq
          have wj : wr .i64 ((j : Int) + 1) = (j : Int) + 1 := wr_i64 (by omega) (by omega)
          have key : ∀ q' : Bool, evF1 vs (dI y) = (q' || evF1 vs ((dI y).drop (j + 1))) → Run G c12_B0 (S12_0 (.m v) (.fa 2 0) (.m (.i .i64 i)) (.m (.b q')) (.m (.i .i64 ((j : Int) + 1))) B []) _ := fun q' h => ihj (j + 1) (by omega) B q' (by omega) hB h
          clear hr ih ihj hls hly hlx hy
          cases q with
          | false =>
            simp [hz.rules, hv.rules, hyr, hn, hlt, hnj, hltj, wj, hB, k1, k2, k3, k4, k5]
            exact key _ hq
          | true =>
            simp [hz.rules, hv.rules, hyr, hn, hlt, hnj, hltj, wj, hB]
            exact key _ hq
    · have ev : evalV n zs vs = .tu [.m (.b false), .m (.i .i64 2)] := if_neg fun h => hn h.2
      simp (contextual := true) (maxSteps := 2000000) (disch := omega) [test_cx, rest_cx, gcall_cx, gcav_cx, -Int.not_lt, -Int.not_le, -Nat.not_lt, -Nat.not_le, -List.map_take, hz.rules, hv.rules, hn, ev]
  · have ev : evalV n zs vs = .tu [.m (.b false), .m (.i .i64 2)] := if_neg fun h => by simp [h1] at h
    simp [ev]
end Go.Mx.Tryz
