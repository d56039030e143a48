/- Eval, the program's text. -/
import Derived.Test.YtcdcepfigjohfaaGreatDoorFp
import Derived.Test.YtcdcepfigjohfaaGreatDoorFd
set_option linter.unusedSimpArgs false
set_option linter.unusedVariables false
set_option linter.unusedSectionVars false
set_option maxRecDepth 100000
namespace Go.Mx.Tryz

def evalV (n : Int) (zs : List I) (vs : List Bool) : V := if frm n zs = true ∧ (vs.length : Int) = n then .tu [.m (.b (evalB zs vs)), .m (.i .i64 0)] else .tu [.m (.b false), .m (.i .i64 2)]

theorem eval_s {v z : I} {vs : List Bool} {zs : List I} (hv : IsSl v (celB vs)) (hz : IsSl z (ones zs)) (hc : Cls zs) (hl : zs.length ≤ 9223372036854775807) (hl' : vs.length ≤ 9223372036854775807) (n : Int) (H : Hp) :
  Gives G 11 [.m (.ag [.i .i64 n, z]), .m v] H (evalV n zs vs) H := by
 refine gives_pur rfl rfl rfl rfl rfl ?_
 simp (contextual := true) (maxSteps := 2000000) (disch := omega) [test_cx, rest_cx, gcall_cx, gcav_cx, -Int.not_lt, -Int.not_le, -Nat.not_lt, -Nat.not_le, -List.map_take, hz.rules, hv.rules, slCells hv, cl (right_s hz hc hl n _)]
 refine ⟨fun h1 => ?_, fun h1 => ?_⟩
 ·by_cases hn : (vs.length : Int) = n
  ·subst hn
   obtain ⟨h65, hls⟩ := frm_lits h1
   have ev : evalV vs.length zs vs = .tu [.m (.b (evalB zs vs)), .m (.i .i64 0)] := if_pos ⟨h1, rfl⟩
   simp (contextual := true) (maxSteps := 2000000) (disch := omega) [test_cx, rest_cx, gcall_cx, gcav_cx, -Int.not_lt, -Int.not_le, -Nat.not_lt, -Nat.not_le, -List.map_take, hz.rules, hv.rules]
   refine (?key : ∀ (i : Nat) (B : List (Nat × List V)), i ≤ zs.length → evalB zs vs = evalB (zs.drop i) vs → Run G c11_B0 (S11_0 (.pt 0 1 0 0) (.m z) (.m (.i .i64 zs.length)) (.m (.i .i64 i)) B [.cs 25 1 [[.m v]] 0 false]) _) 0 _ (Nat.zero_le _) rfl
   refine indM (fun i : Nat => zs.length - i) fun i ih B hi hr => ?_
   unfold c11_B0
   cases hx : zs[i]? with
   | none =>
    have : i = zs.length := by have := List.getElem?_eq_none_iff.1 hx; omega
    subst this
    have hr : evalB zs vs = true := by rw [hr, List.drop_length]; rfl
    simp [hz.rules, hr, ev]
   | some y =>
    have hlt := (get_drop hx).1
    have hn := ones_nth hx
    have hy := hc y (List.mem_of_getElem? hx)
    have hcn := gives_view (vs := [.m y, .fn 29 [.pt 0 1 0 0]]) (H := [.cs 25 1 [[.m v]] 0 false]) rfl rfl (contains_s hv (by omega) hy.1 hy.2 (hls y (List.mem_of_getElem? hx)) []) rfl (.inr ⟨by simp [refs, ref1], rfl⟩)
    rw [(get_drop hx).2] at hr
    have hg : evalB (y :: zs.drop (i + 1)) vs = (evF1 vs (dI y) && evalB (zs.drop (i + 1)) vs) := rfl
    rw [hg] at hr
    simp (contextual := true) (maxSteps := 2000000) (disch := omega) [test_cx, rest_cx, gcall_cx, gcav_cx, -Int.not_lt, -Int.not_le, -Nat.not_lt, -Nat.not_le, -List.map_take, hz.rules, hn, hlt, wr_i64, cl hcn]
    repeat' first | with_reducible apply And.intro | intro _
    all_goals first
     | (refine ih (i + 1) (by omega) _ (by omega) ?_; grind)
     | simp_all
  ·have ev : evalV n zs vs = .tu [.m (.b false), .m (.i .i64 2)] := if_neg fun h => hn h.2
   simp (contextual := true) (maxSteps := 2000000) (disch := omega) [test_cx, rest_cx, gcall_cx, gcav_cx, -Int.not_lt, -Int.not_le, -Nat.not_lt, -Nat.not_le, -List.map_take, hz.rules, hv.rules, hn, ev]
 ·have ev : evalV n zs vs = .tu [.m (.b false), .m (.i .i64 2)] := if_neg fun h => by simp [h1] at h
  simp [ev]

theorem lit_m {vs : List Bool} (hl : vs.length ≤ 65536) {x : Int} (h : lit vs.length x = true) : ∃ (m : Nat) (b : Bool), m < vs.length ∧ nth (celB vs) m = some [.b b] ∧ max x (-x) = (m : Int) + 1 ∧ wr .i64 (-x) = -x ∧ wr .i64 (m : Int) = m ∧ lit1 vs x = (b == decide (0 < x)) := by
 obtain ⟨b, hb, he⟩ := lit_place h
 have hn := celB_nth hb
 unfold lit at h
 simp only [decide_eq_true_eq] at h
 obtain ⟨m, hm, e2⟩ : ∃ m : Nat, (if x < 0 then -x else x) - 1 = (m : Int) ∧ max x (-x) = (m : Int) + 1 := by
  by_cases hx : x < 0
  ·rw [if_pos hx]; exact ⟨(-x - 1).toNat, by omega, by omega⟩
  ·rw [if_neg hx]; exact ⟨(x - 1).toNat, by omega, by omega⟩
 have hml : m < vs.length := by
  have := (List.getElem?_eq_some_iff.1 hb).1
  rw [hm] at this
  simpa using this
 rw [hm, Int.toNat_natCast] at hn
 exact ⟨m, b, hml, hn, e2, wr_i64 (by omega) (by omega), wr_i64n m (by omega), he⟩
end Go.Mx.Tryz
