/- Eval of both texts. -/
import Derived.Test.YtcdcepfigjohfaaGreatDoorFo
import Derived.Test.YtcdcepfigjohfaaGreatDoorLaw
import Derived.Test.YtcdcepfigjohfaaGreatDoorAwake
set_option linter.unusedSimpArgs false
set_option linter.unusedVariables false
set_option linter.unusedSectionVars false
set_option maxRecDepth 100000
namespace Go.Mx.Tryz

theorem lit_place {vs : List Bool} {x : Int} (h : lit vs.length x = true) : ∃ b, vs[((if x < 0 then -x else x) - 1).toNat]? = some b ∧ lit1 vs x = (b == decide (0 < x)) := by
 unfold lit at h
 simp only [decide_eq_true_eq] at h
 have : ((if x < 0 then -x else x) - 1).toNat < vs.length := by split <;> omega
 exact ⟨vs[((if x < 0 then -x else x) - 1).toNat], List.getElem?_eq_getElem this, by unfold lit1; rw [List.getElem?_eq_getElem this]; rfl⟩

theorem ev1_s {v : I} {vs : List Bool} (hv : IsSl v (celB vs)) (hl : vs.length ≤ 65536) (x : Int) (h : lit vs.length x = true) (H : Hp) : Gives G 29 [.m (.i .i64 x), .m (.pt [v])] H (.m (.b (lit1 vs x))) H := by
 refine gives_pur rfl rfl rfl rfl rfl ?_
 obtain ⟨b, hb, he⟩ := lit_place h
 have hn := celB_nth hb
 rw [he]
 unfold lit at h
 simp only [decide_eq_true_eq] at h
 have w1 : wr .i64 (-x) = -x := wr_i64 (by omega) (by omega)
 obtain ⟨m, hm, e2⟩ : ∃ m : Nat, (if x < 0 then -x else x) - 1 = (m : Int) ∧ max x (-x) = (m : Int) + 1 := by
  by_cases hx : x < 0
  ·rw [if_pos hx]; exact ⟨(-x - 1).toNat, by omega, by omega⟩
  ·rw [if_neg hx]; exact ⟨(x - 1).toNat, by omega, by omega⟩
 have hml : m < vs.length := by
  have := (List.getElem?_eq_some_iff.1 hb).1
  rw [hm] at this
  simpa using this
 rw [hm, Int.toNat_natCast] at hn
 have w2 : wr .i64 (m : Int) = m := wr_i64n m (by omega)
 clear hm hb he
 simp [hv.rules, hn, w1, w2, e2, hml]

def fi (p : Int → Bool) : Nat → List Int → Int
 | _, [] => -1
 | k, x :: r => if p x = true then (k : Int) else fi p (k + 1) r
theorem fi_any (p : Int → Bool) : ∀ (k : Nat) (l : List Int), decide (0 ≤ fi p k l) = l.any p
 | _, [] => rfl
 | k, x :: r => by
  unfold fi
  rw [List.any_cons, ← fi_any p (k + 1) r]
  by_cases h : p x = true <;> simp [h]

theorem index_s {v z : I} {vs : List Bool} {c : List Int} (hv : IsSl v (celB vs)) (hl : vs.length ≤ 65536) (hz : IsSl z (celI c)) (hc : c.length ≤ 9223372036854775807) (h : lits vs.length c = true) (H : Hp) :
  Gives G 59 [.m z, .m (.fn 29 [.pt [v]])] H (.m (.i .i64 (fi (lit1 vs) 0 c))) H := by
 refine gives_pur rfl rfl rfl rfl rfl ?_
 simp (contextual := true) (maxSteps := 2000000) (disch := omega) [test_cx, rest_cx, gcall_cx, gcav_cx, -Int.not_lt, -Int.not_le, -Nat.not_lt, -Nat.not_le, -List.map_take, hz.rules]
 refine (?key : ∀ (i : Nat) (B : List (Nat × List V)), i ≤ c.length → fi (lit1 vs) 0 c = fi (lit1 vs) i (c.drop i) → Run G c59_B0 (S59_0 (.m z) (.m (.fn 29 [.pt [v]])) (.m (.i .i64 c.length)) (.m (.i .i64 i)) B []) _) 0 [] (Nat.zero_le _) rfl
 refine indM (fun i : Nat => c.length - i) fun i ih B hi hr => ?_
 unfold c59_B0
 cases hx : c[i]? with
 | none =>
  have : i = c.length := by have := List.getElem?_eq_none_iff.1 hx; omega
  subst this
  rw [List.drop_length] at hr
  simp [hz.rules, hr, fi]
 | some x =>
  have hlt := (get_drop hx).1
  have hn := celI_nth hx
  have hlx : lit vs.length x = true := by
   unfold lits at h
   rw [List.all_eq_true] at h
   exact h x (List.mem_of_getElem? hx)
  rw [(get_drop hx).2] at hr
  have hg : fi (lit1 vs) i (x :: c.drop (i + 1)) = if lit1 vs x = true then (i : Int) else fi (lit1 vs) (i + 1) (c.drop (i + 1)) := rfl
  rw [hg] at hr
  simp (contextual := true) (maxSteps := 2000000) (disch := omega) [test_cx, rest_cx, gcall_cx, gcav_cx, -Int.not_lt, -Int.not_le, -Nat.not_lt, -Nat.not_le, -List.map_take, hz.rules, hn, hlt, wr_i64, cl (ev1_s hv hl x hlx _)]
  repeat' first | with_reducible apply And.intro | intro _
  all_goals first
   | (refine ih (i + 1) (by omega) _ (by omega) ?_; grind)
   | grind
theorem contains_s {v z : I} {vs : List Bool} {c : List Int} (hv : IsSl v (celB vs)) (hl : vs.length ≤ 65536) (hz : IsSl z (celI c)) (hc : c.length ≤ 9223372036854775807) (h : lits vs.length c = true) (H : Hp) :
  Gives G 28 [.m z, .m (.fn 29 [.pt [v]])] H (.m (.b (evF1 vs c))) H := by
 refine gives_pur rfl rfl rfl rfl rfl ?_
 have he : evF1 vs c = decide (0 ≤ fi (lit1 vs) 0 c) := (fi_any _ _ _).symm
 simp [cl (index_s hv hl hz hc h _), he]
end Go.Mx.Tryz
