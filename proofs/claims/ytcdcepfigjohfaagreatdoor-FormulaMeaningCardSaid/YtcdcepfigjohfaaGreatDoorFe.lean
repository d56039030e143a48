/- Equality of clauses and of formulas. -/
import Derived.Test.YtcdcepfigjohfaaGreatDoorFd
import Derived.Test.YtcdcepfigjohfaaGreatDoorLaw
set_option linter.unusedSimpArgs false
set_option linter.unusedVariables false
set_option linter.unusedSectionVars false
set_option maxRecDepth 100000
namespace Go.Mx.Tryz

theorem equal_r {z y : I} {c d : List Int} (hz : IsSl z (celI c)) (hy : IsSl y (celI d)) (hc : c.length ≤ 9223372036854775807) (H : Hp) : Gives G 22 [.m z, .m y] H (.m (.b (decide (c = d)))) H := by
 refine gives_pur rfl rfl rfl rfl rfl ?_
 by_cases hl : c.length = d.length
 ·have hl' : (c.length : Int) = d.length := by omega
  simp [hz.rules, hy.rules, hl]
  refine (?key : ∀ (i : Nat) (B : List (Nat × List V)), i ≤ c.length → c.take i = d.take i → Run G c22_B0 (S22_0 (.m z) (.m y) (.m (.i .i64 i)) B []) _) 0 [] (Nat.zero_le _) rfl
  refine indM (fun i : Nat => c.length - i) fun i ih B hi hq => ?_
  unfold c22_B0
  cases hx : c[i]? with
  | none =>
   have : i = c.length := by have := List.getElem?_eq_none_iff.1 hx; omega
   subst this
   have e : c = d := by
    rw [List.take_length] at hq
    rw [hq, List.take_of_length_le (by omega)]
   subst e
   simp [hz.rules]
  | some x =>
   have hlt := (get_drop hx).1
   have hn := celI_nth hx
   obtain ⟨w, hw⟩ : ∃ w, d[i]? = some w := ⟨d[i]'(by omega), List.getElem?_eq_getElem _⟩
   have hn2 := celI_nth hw
   have hlt2 : i < d.length := by omega
   have wi : wr .i64 ((i : Int) + 1) = (i : Int) + 1 := wr_i64 (by omega) (by omega)
   by_cases hxw : x = w
   ·subst hxw
    simp [hz.rules, hy.rules, hn, hn2, hlt, hlt2, wi]
    refine ih (i + 1) (by omega) _ (by omega) ?_
    rw [take_succ_get hx, take_succ_get hw, hq]
   ·have e : ¬ c = d := fun e => hxw (by subst e; rw [hx] at hw; cases hw; rfl)
    simp [hz.rules, hy.rules, hn, hn2, hlt, hlt2, hxw, e]
 ·have hl' : ¬ (c.length : Int) = d.length := by omega
  have e : ¬ c = d := fun e => hl (by rw [e])
  simp [hz.rules, hy.rules, hl', e]

theorem same_r {z y : I} {zs ys : List I} (hz : IsSl z (ones zs)) (hy : IsSl y (ones ys)) (hc : Cls zs) (hd : Cls ys) (hcl : zs.length ≤ 9223372036854775807) (n m : Int) (H : Hp) :
  Gives G 17 [.m (.ag [.i .i64 n, z]), .m (.ag [.i .i64 m, y])] H (.m (.b (decide (n = m ∧ zs.map dI = ys.map dI)))) H := by
 refine gives_pur rfl rfl rfl rfl rfl ?_
 by_cases hnm : n = m
 ·subst hnm
  by_cases hl : zs.length = ys.length
  ·simp [hz.rules, hy.rules, hl]
   refine (?key : ∀ (i : Nat) (B : List (Nat × List V)), i ≤ zs.length → getB B 2 = some [.m (.i .i64 n), .m z] → getB B 3 = some [.m (.i .i64 n), .m y] → (zs.map dI).take i = (ys.map dI).take i → Run G c17_B0 (S17_0 (.fa 2 0) (.fa 3 0) (.m (.i .i64 i)) B []) _) 0 _ (Nat.zero_le _) rfl rfl rfl
   refine indM (fun i : Nat => zs.length - i) fun i ih B hi hB2 hB3 hq => ?_
   unfold c17_B0
   cases hx : zs[i]? with
   | none =>
    have : i = zs.length := by have := List.getElem?_eq_none_iff.1 hx; omega
    subst this
    have e : zs.map dI = ys.map dI := by
     have h1 : (zs.map dI).take zs.length = zs.map dI := List.take_of_length_le (by simp)
     have h2 : (ys.map dI).take zs.length = ys.map dI := List.take_of_length_le (by simp; omega)
     rw [h1, h2] at hq
     exact hq
    simp [hz.rules, hB2, e]
   | some x =>
    have hlt := (get_drop hx).1
    have hn := ones_nth hx
    obtain ⟨w, hw⟩ : ∃ w, ys[i]? = some w := ⟨ys[i]'(by omega), List.getElem?_eq_getElem _⟩
    have hn2 := ones_nth hw
    have hlt2 : i < ys.length := by omega
    have wi : wr .i64 ((i : Int) + 1) = (i : Int) + 1 := wr_i64 (by omega) (by omega)
    have h1 := hc x (List.mem_of_getElem? hx)
    have h2 := hd w (List.mem_of_getElem? hw)
    have ge := fun H => equal_r h1.1 h2.1 h1.2 H
    have hxm : (zs.map dI)[i]? = some (dI x) := by simp [hx]
    have hwm : (ys.map dI)[i]? = some (dI w) := by simp [hw]
    by_cases hxw : dI x = dI w
    ·rw [decide_eq_true hxw] at ge
     simp [hz.rules, hy.rules, hn, hn2, hlt, hlt2, wi, hB2, hB3, cl (ge _)]
     refine ih (i + 1) (by omega) _ (by omega) (by simpa using hB2) (by simpa using hB3) ?_
     rw [take_succ_get hxm, take_succ_get hwm, hq, hxw]
    ·have e : ¬ zs.map dI = ys.map dI := fun e => hxw (by rw [e, hwm] at hxm; exact (Option.some.inj hxm).symm)
     rw [decide_eq_false hxw] at ge
     simp [hz.rules, hy.rules, hn, hn2, hlt, hlt2, hB2, hB3, cl (ge _), e]
  ·have e : ¬ zs.map dI = ys.map dI := fun e => hl (by have := congrArg List.length e; simpa using this)
   have hl' : ¬ (zs.length : Int) = ys.length := by omega
   simp [hz.rules, hy.rules, hl', e]
 ·simp [hnm]

theorem zC_one (cls : List (List Int)) : oneV (.m (zC cls)) = true := by
 unfold zC
 split <;> rfl
def formT (a : Int) (cls : List (List Int)) (e : Int) : V := .tu [.m (.ag [.i .i64 a, zC cls]), .m (.i .i64 e)]
end Go.Mx.Tryz
