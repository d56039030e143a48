/- Formulas: clauses as lists of numbers; Right and Eval of both texts. -/
import Derived.Test.YtcdcepfigjohfaaGreatDoorSeav
set_option linter.unusedSimpArgs false
set_option linter.unusedVariables false
set_option linter.unusedSectionVars false
set_option maxRecDepth 100000
namespace Go.Mx.Tryz

def dE : List I → Int
 | [.i _ x] => x
 | _ => 0
def dI : I → List Int
 | .sl es => es.map dE
 | _ => []
attribute [simp] celI_len
def ones (zs : List I) : List (List I) := zs.map fun z => [z]
@[simp] theorem ones_len (zs : List I) : (ones zs).length = zs.length := by simp [ones]
theorem ones_nth {zs : List I} {i : Nat} {z : I} (h : zs[i]? = some z) : nth (ones zs) i = some [z] := by
 rw [nth_get]; simp [ones, h]
def celB (l : List Bool) : List (List I) := l.map fun x => [.b x]
@[simp] theorem celB_len (l : List Bool) : (celB l).length = l.length := by simp [celB]
theorem celB_nth {l : List Bool} {i : Nat} {x : Bool} (h : l[i]? = some x) : nth (celB l) i = some [.b x] := by
 rw [nth_get]; simp [celB, h]
def Cls (zs : List I) : Prop := ∀ z, z ∈ zs → IsSl z (celI (dI z)) ∧ (dI z).length ≤ 9223372036854775807
def lit (n x : Int) : Bool := decide (x ≠ 0 ∧ x ≤ n ∧ -n ≤ x)
def lits (n : Int) (c : List Int) : Bool := c.all (lit n)
def frm (n : Int) (zs : List I) : Bool := decide (0 ≤ n ∧ n ≤ 65536 ∧ zs.length ≤ 262144) && zs.all fun z => lits n (dI z)
def lit1 (vs : List Bool) (x : Int) : Bool := (vs[((if x < 0 then -x else x) - 1).toNat]?).getD false == decide (0 < x)
def evF1 (vs : List Bool) (c : List Int) : Bool := c.any (lit1 vs)
def evalB (zs : List I) (vs : List Bool) : Bool := zs.all fun z => evF1 vs (dI z)

theorem literal_r (x n : Int) (h0 : 0 ≤ n) (h1 : n ≤ 65536) (H : Hp) : Gives G 31 [.m (.i .i64 x), .m (.i .i64 n)] H (.m (.b (lit n x))) H := by
 refine gives_pur rfl rfl rfl rfl rfl ?_
 simp (contextual := true) (maxSteps := 2000000) (disch := omega) [test_cx, rest_cx, gcall_cx, gcav_cx, -Int.not_lt, -Int.not_le, -Nat.not_lt, -Nat.not_le, -List.map_take, wr_i64, lit]
 all_goals grind

theorem proper_s {z : I} {c : List Int} (hz : IsSl z (celI c)) (hl : c.length ≤ 9223372036854775807) (n : Int) (h0 : 0 ≤ n) (h1 : n ≤ 65536) (H : Hp) : Gives G 30 [.m (.i .i64 n), .m z] H (.m (.b (lits n c))) H := by
 refine gives_pur rfl rfl rfl rfl rfl ?_
 simp (contextual := true) (maxSteps := 2000000) (disch := omega) [test_cx, rest_cx, gcall_cx, gcav_cx, -Int.not_lt, -Int.not_le, -Nat.not_lt, -Nat.not_le, -List.map_take, hz.rules]
 refine (?key : ∀ (i : Nat) (B : List (Nat × List V)), i ≤ c.length → lits n c = lits n (c.drop i) → Run G c30_B0 (S30_0 (.m (.i .i64 n)) (.m z) (.m (.i .i64 c.length)) (.m (.i .i64 i)) B []) _) 0 [] (Nat.zero_le _) rfl
 refine indM (fun i : Nat => c.length - i) fun i ih B hi hr => ?_
 unfold c30_B0
 cases hx : c[i]? with
 | none =>
  have : i = c.length := by have := List.getElem?_eq_none_iff.1 hx; omega
  subst this
  have hr : lits n c = true := by rw [hr, List.drop_length]; rfl
  simp [hz.rules, hr]
 | some x =>
  have hlt := (get_drop hx).1
  have hn := celI_nth hx
  rw [(get_drop hx).2] at hr
  have hg : lits n (x :: c.drop (i + 1)) = (lit n x && lits n (c.drop (i + 1))) := rfl
  rw [hg] at hr
  have hlit : lit n x = decide (x ≠ 0 ∧ x ≤ n ∧ -n ≤ x) := rfl
  simp (contextual := true) (maxSteps := 2000000) (disch := omega) [test_cx, rest_cx, gcall_cx, gcav_cx, -Int.not_lt, -Int.not_le, -Nat.not_lt, -Nat.not_le, -List.map_take, hz.rules, hn, hlt, wr_i64]
  repeat' first | with_reducible apply And.intro | intro _
  all_goals first
   | (refine ih (i + 1) (by omega) _ (by omega) ?_; grind)
   | grind

theorem few_s {z : I} {zs : List I} (hz : IsSl z (ones zs)) (hc : Cls zs) (hl : zs.length ≤ 9223372036854775807) (n : Int) (H : Hp) : Gives G 9 [.m (.ag [.i .i64 n, z])] H (.m (.b (decide (zs.length ≤ 60) && zs.all fun z => decide ((dI z).length ≤ 30)))) H := by
 refine gives_pur rfl rfl rfl rfl rfl ?_
 simp (contextual := true) (maxSteps := 2000000) (disch := omega) [test_cx, rest_cx, gcall_cx, gcav_cx, -Int.not_lt, -Int.not_le, -Nat.not_lt, -Nat.not_le, -List.map_take, hz.rules]
 refine ⟨fun h => ?_, fun h => ?_⟩
 ·have : ¬ zs.length ≤ 60 := by omega
  simp [this]
 refine (?key : ∀ (i : Nat) (B : List (Nat × List V)), i ≤ zs.length → getB B 1 = some [.m (.i .i64 n), .m z] → (zs.all fun z => decide ((dI z).length ≤ 30)) = ((zs.drop i).all fun z => decide ((dI z).length ≤ 30)) → Run G c9_B0 (S9_0 (.fa 1 0) (.m (.i .i64 zs.length)) (.m (.i .i64 i)) B []) _) 0 _ (Nat.zero_le _) rfl rfl
 refine indM (fun i : Nat => zs.length - i) fun i ih B hi hB hr => ?_
 unfold c9_B0
 have h60 : zs.length ≤ 60 := by omega
 cases hx : zs[i]? with
 | none =>
  have : i = zs.length := by have := List.getElem?_eq_none_iff.1 hx; omega
  subst this
  simp [hz.rules, hr, h60]
 | some y =>
  have hlt := (get_drop hx).1
  have hn := ones_nth hx
  have hy := (hc y (List.mem_of_getElem? hx)).1
  have hyl := (hc y (List.mem_of_getElem? hx)).2
  have hcl := celI_len (dI y)
  rw [(get_drop hx).2, List.all_cons] at hr
  simp (contextual := true) (maxSteps := 2000000) (disch := omega) [test_cx, rest_cx, gcall_cx, gcav_cx, -Int.not_lt, -Int.not_le, -Nat.not_lt, -Nat.not_le, -List.map_take, hz.rules, hy.rules, hn, hlt, wr_i64, hB]
  repeat' first | with_reducible apply And.intro | intro _
  all_goals first
   | (refine ih (i + 1) (by omega) _ (by omega) (by simpa using hB) ?_; grind)
   | grind

theorem right_s {z : I} {zs : List I} (hz : IsSl z (ones zs)) (hc : Cls zs) (hl : zs.length ≤ 9223372036854775807) (n : Int) (H : Hp) : Gives G 13 [.m (.ag [.i .i64 n, z])] H (.m (.b (frm n zs))) H := by
 refine gives_pur rfl rfl rfl rfl rfl ?_
 simp (contextual := true) (maxSteps := 2000000) (disch := omega) [test_cx, rest_cx, gcall_cx, gcav_cx, -Int.not_lt, -Int.not_le, -Nat.not_lt, -Nat.not_le, -List.map_take, hz.rules]
 have fr : frm n zs = (decide (0 ≤ n ∧ n ≤ 65536 ∧ zs.length ≤ 262144) && zs.all fun z => lits n (dI z)) := rfl
 repeat' first | with_reducible apply And.intro | intro _
 all_goals first
  | grind
  | skip
 rename_i h0 h1 h2
 have h0 : 0 ≤ n := by omega
 have h1 : n ≤ 65536 := by omega
 have fr : frm n zs = zs.all fun z => lits n (dI z) := by
  rw [fr, decide_eq_true (by omega), Bool.true_and]
 refine (?key : ∀ (i : Nat) (B : List (Nat × List V)), i ≤ zs.length → getB B 1 = some [.m (.i .i64 n), .m z] → frm n zs = ((zs.drop i).all fun z => lits n (dI z)) → Run G c13_B0 (S13_0 (.fa 1 0) (.m z) (.m (.i .i64 zs.length)) (.m (.i .i64 i)) B []) _) 0 _ (Nat.zero_le _) rfl fr
 refine indM (fun i : Nat => zs.length - i) fun i ih B hi hB hr => ?_
 unfold c13_B0
 cases hx : zs[i]? with
 | none =>
  have : i = zs.length := by have := List.getElem?_eq_none_iff.1 hx; omega
  subst this
  simp [hz.rules, hr]
 | some y =>
  have hlt := (get_drop hx).1
  have hn := ones_nth hx
  have hy := hc y (List.mem_of_getElem? hx)
  rw [(get_drop hx).2, List.all_cons] at hr
  simp (contextual := true) (maxSteps := 2000000) (disch := omega) [test_cx, rest_cx, gcall_cx, gcav_cx, -Int.not_lt, -Int.not_le, -Nat.not_lt, -Nat.not_le, -List.map_take, hz.rules, hn, hlt, wr_i64, hB, cl (proper_s hy.1 hy.2 n h0 h1 _)]
  repeat' first | with_reducible apply And.intro | intro _
  all_goals first
   | (refine ih (i + 1) (by omega) _ (by omega) (by simpa using hB) ?_; grind)
   | grind

theorem right_r {z : I} {zs : List I} (hz : IsSl z (ones zs)) (hc : Cls zs) (hl : zs.length ≤ 9223372036854775807) (n : Int) (H : Hp) : Gives G 14 [.m (.ag [.i .i64 n, z])] H (.m (.b (frm n zs))) H := by
 refine gives_pur rfl rfl rfl rfl rfl ?_
 simp (contextual := true) (maxSteps := 2000000) (disch := omega) [test_cx, rest_cx, gcall_cx, gcav_cx, -Int.not_lt, -Int.not_le, -Nat.not_lt, -Nat.not_le, -List.map_take, hz.rules]
 have fr : frm n zs = (decide (0 ≤ n ∧ n ≤ 65536 ∧ zs.length ≤ 262144) && zs.all fun z => lits n (dI z)) := rfl
 repeat' first | with_reducible apply And.intro | intro _
 all_goals first
  | grind
  | skip
 rename_i h0 h1 h2
 have h0 : 0 ≤ n := by omega
 have h1 : n ≤ 65536 := by omega
 have fr : frm n zs = zs.all fun z => lits n (dI z) := by
  rw [fr, decide_eq_true (by omega), Bool.true_and]
 refine (?key : ∀ (i : Nat) (B : List (Nat × List V)), i ≤ zs.length → getB B 1 = some [.m (.i .i64 n), .m z] → frm n zs = ((zs.drop i).all fun z => lits n (dI z)) → Run G c14_B1 (S14_1 (.fa 1 0) (.m (.i .i64 i)) B []) _) 0 _ (Nat.zero_le _) rfl fr
 refine indM (fun i : Nat => zs.length - i) fun i ih B hi hB hr => ?_
 unfold c14_B1
 cases hx : zs[i]? with
 | none =>
  have : i = zs.length := by have := List.getElem?_eq_none_iff.1 hx; omega
  subst this
  simp [hz.rules, hr, hB]
 | some y =>
  have hlt := (get_drop hx).1
  have hn := ones_nth hx
  have hy := hc y (List.mem_of_getElem? hx)
  rw [(get_drop hx).2, List.all_cons] at hr
  simp (contextual := true) (maxSteps := 2000000) (disch := omega) [test_cx, rest_cx, gcall_cx, gcav_cx, -Int.not_lt, -Int.not_le, -Nat.not_lt, -Nat.not_le, -List.map_take, hz.rules, hn, hlt, wr_i64, hB]
  refine (?key2 : ∀ (j : Nat) (B : List (Nat × List V)), j ≤ (dI y).length → getB B 1 = some [.m (.i .i64 n), .m z] → lits n (dI y) = lits n ((dI y).drop j) → Run G c14_B0 (S14_0 (.fa 1 0) (.m (.i .i64 i)) (.m (.i .i64 j)) B []) _) 0 _ (Nat.zero_le _) (by simpa using hB) rfl
  refine indM (fun j : Nat => (dI y).length - j) fun j ihj B hj hB hq => ?_
  unfold c14_B0
  cases hxj : (dI y)[j]? with
  | none =>
   have : j = (dI y).length := by have := List.getElem?_eq_none_iff.1 hxj; omega
   subst this
   have hq : lits n (dI y) = true := by rw [hq]; simp [lits]
   have hyl := hy.2
   simp (contextual := true) (maxSteps := 2000000) (disch := omega) [test_cx, rest_cx, gcall_cx, gcav_cx, -Int.not_lt, -Int.not_le, -Nat.not_lt, -Nat.not_le, -List.map_take, hz.rules, hy.1.rules, hn, hlt, wr_i64, hB]
   refine ih (i + 1) (by omega) _ (by omega) (by simpa using hB) ?_
   rw [hr, hq, Bool.true_and]
  | some x =>
   have hltj := (get_drop hxj).1
   have hnj := celI_nth hxj
   have hyl := hy.2
   rw [(get_drop hxj).2] at hq
   have hg : lits n (x :: (dI y).drop (j + 1)) = (lit n x && lits n ((dI y).drop (j + 1))) := rfl
   rw [hg] at hq
   simp (contextual := true) (maxSteps := 2000000) (disch := omega) [test_cx, rest_cx, gcall_cx, gcav_cx, -Int.not_lt, -Int.not_le, -Nat.not_lt, -Nat.not_le, -List.map_take, hz.rules, hy.1.rules, hn, hlt, hnj, hltj, wr_i64, hB, cl (literal_r x n h0 h1 _)]
   repeat' first | with_reducible apply And.intro | intro _
   all_goals first
    | (refine ihj (j + 1) (by omega) _ (by omega) (by simpa using hB) ?_; grind)
    | grind
end Go.Mx.Tryz
