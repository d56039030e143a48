/- CoordsOrders: the law. -/
import Derived.Test.YtfllcbohggcmfaaGreatDoorKo
import Derived.Test.YtfllcbohggcmfaaGreatDoorKq
set_option linter.unusedSimpArgs false
set_option linter.unusedVariables false
set_option linter.unusedSectionVars false
set_option maxRecDepth 100000
namespace Go.Mx.Tryz
open Go.Lib

def celO (vs : List Bool) : List (List I) := vs.map fun b => [.b b]
@[simp] theorem celO_len (vs : List Bool) : (celO vs).length = vs.length := by simp [celO]
theorem celO_nth {vs : List Bool} {i : Nat} {b : Bool} (h : vs[i]? = some b) : nth (celO vs) i = some [.b b] := by
  rw [nth_get]; simp [celO, h]
theorem celO_ofF {es : List (List I)} (h : ∀ x, x ∈ es → ∃ b : Bool, x = [.b b]) : ∃ vs, es = celO vs := by
  induction es with
  | nil => exact ⟨[], rfl⟩
  | cons x r ih =>
    obtain ⟨b, rfl⟩ := h x (by simp)
    obtain ⟨vs, rfl⟩ := ih fun x hx => h x (by simp [hx])
    exact ⟨b :: vs, rfl⟩
theorem aggBsO : aggT Go.Proofs.Tryz.prog 38 = some false := by unfold aggT; rw [Go.Proofs.Tryz.underlying38]; rfl
theorem arg_boolsO {B n : Nat} {ts : List TypeId} {us : List V} (h : ArgsOk Go.Proofs.Tryz.prog B (n + 2) (38 :: ts) us) :
    ∃ (v : I) (vs : List Bool) (r : List V), us = .m v :: r ∧ IsSl v (celO vs) ∧ vs.length ≤ B ∧ ArgsOk Go.Proofs.Tryz.prog B (n + 2) ts r := by
  obtain ⟨l, r, rfl, hl, h'⟩ := argsOk_cons h
  unfold Fits at hl
  rw [Go.Proofs.Tryz.underlying38] at hl
  simp only at hl
  rcases hl with rfl | ⟨es, rfl, hle, hes⟩
  · rw [argV_one aggBsO]
    exact ⟨_, [], r, rfl, isSl_nil, by simp, h'⟩
  · have : ∃ vs, es = celO vs := celO_ofF fun x hx => by
      have := hes x hx
      unfold Fits at this
      rw [Go.Proofs.Tryz.underlying4] at this
      simpa using this
    obtain ⟨vs, rfl⟩ := this
    rw [argV_one aggBsO]
    exact ⟨_, vs, r, rfl, isSl_sl _, by simpa using hle, h'⟩
theorem law_orders (hA : Gives G 9 [] [] (.m (.b true)) []) {v w : I} {p : List Ce} {bs : List Bool} (hv : IsSl v (cells3 p)) (hw : IsSl w (celO bs)) (hb : bs.length ≤ 9223372036854775807) (hm : p.length ≤ 9223372036854775807) : Gives G 7 [.m v, .m w] [] (.m (.b true)) [] := by
  refine gives_pur rfl rfl rfl rfl rfl ?_
  by_cases h : 100 < p.length
  · have h' : (100 : Int) < p.length := by omega
    simp [hv.rules, h', gcall_cx, cl hA]
  · have h' : ¬ (100 : Int) < p.length := by omega
    have hr := right_r hv (by omega)
    cases hR : right p with
    | false =>
      rw [hR] at hr
      simp [hv.rules, h', gcall_cx, cl (hr _), cl hA]
    | true =>
      rw [hR] at hr
      have hsm : ∀ c, c ∈ p → small c := fun c hc => good_small ((right_pw hR).2.1 c hc)
      simp (maxSteps := 2000000) (disch := omega) [gd_in, gd_and, wr_i64, hv.rules, h', gcall_cx, cl (hr _)]
      refine (?key : ∀ (i : Nat) (f : List Ce), i ≤ p.length → f.Perm (p.take i) → Run G c7_B0 (S7_0 (.m v) (.m w) (.m (.s (txt3 f))) (.m (.i .i64 p.length)) (.m (.i .i64 i)) [] []) _) 0 [] (Nat.zero_le _) (.refl _)
      refine indM (fun i : Nat => p.length - i) fun i ih f hi hf => ?_
      have hsf : ∀ c, c ∈ f → small c := fun c hc => hsm c (List.mem_of_mem_take (hf.mem_iff.1 hc))
      have tl := txt3_len f hsf
      have hfl : f.length ≤ i := by rw [hf.length_eq]; exact List.length_take_le i p
      unfold c7_B0
      cases hx : p[i]? with
      | none =>
        have : i = p.length := by have := List.getElem?_eq_none_iff.1 hx; omega
        subst this
        rw [List.take_length] at hf
        have g3 := fun H => parse_3 hR hf (by omega) H
        have g5 := fun H => same_r hv (zP_sl p) (by omega) H
        have e : headC ++ txt3 f = [35, 99, 101, 108, 108, 115, 10] ++ txt3 f := rfl
        rw [e] at g3
        simp only [List.cons_append, List.nil_append] at g3
        simp (maxSteps := 2000000) (disch := omega) [gd_in, gd_and, wr_i64, cl (g3 _), cl (g5 _), cl hA, gcall_cx]
      | some c =>
        have hlt := (get_drop hx).1
        have hn := cells3_nth hx
        have hi' : (i : Int) < p.length := by omega
        have hc := hsm c (List.mem_of_getElem? hx)
        have lx := itoaN_small c.x hc.1
        have ly := itoaN_small c.y hc.2.1
        have ls := itoaN_small c.s (by have := hc.2.2; omega)
        have gx := decm c.x (by have := hc.1; omega) (by have := hc.1; omega)
        have gy := decm c.y (by have := hc.2.1; omega) (by have := hc.2.1; omega)
        have gs := decm c.s (by have := hc.2.2; omega) (by have := hc.2.2; omega)
        have hf1 : (c :: f).Perm (p.take (i + 1)) := by
          rw [take_succ_get hx]
          exact (hf.cons c).trans (List.perm_append_singleton c (p.take i)).symm
        have hf2 : (f ++ [c]).Perm (p.take (i + 1)) := (List.perm_append_singleton c f).trans hf1
        have k1 := ih (i + 1) (by omega) (c :: f) (by omega) hf1
        have k2 := ih (i + 1) (by omega) (f ++ [c]) (by omega) hf2
        have e1 : txt3 (c :: f) = itoaN c.x ++ 32 :: (itoaN c.y ++ 32 :: (itoaN c.s ++ 10 :: txt3 f)) := by
          show (lin3 c ++ [10]) ++ txt3 f = _
          simp [lin3]
        have e2 : txt3 (f ++ [c]) = txt3 f ++ (itoaN c.x ++ 32 :: (itoaN c.y ++ 32 :: (itoaN c.s ++ [10]))) := by
          rw [txt3_app]
          simp [txt3, lin3]
        rw [e1] at k1
        rw [e2] at k2
        generalize txt3 f = s at *
        cases hbx : bs[i]? with
        | none =>
          have hbl : ¬ (i : Int) < bs.length := by have := List.getElem?_eq_none_iff.1 hbx; omega
          simp (maxSteps := 2000000) (disch := omega) [gd_in, gd_and, wr_i64, test_cx, rest_cx, gcall_cx, gcav_cx, -Int.not_lt, -Int.not_le, -Nat.not_lt, -Nat.not_le, -List.map_take, hv.rules, hw.rules, hn, hi', hbl, cl (gx _), cl (gy _), cl (gs _), List.length_append, List.length_cons]
          simpa using k2
        | some b =>
          have hbl : (i : Int) < bs.length := by have := (get_drop hbx).1; omega
          have hbn := celO_nth hbx
          cases b with
          | false =>
            simp (maxSteps := 2000000) (disch := omega) [gd_in, gd_and, wr_i64, test_cx, rest_cx, gcall_cx, gcav_cx, -Int.not_lt, -Int.not_le, -Nat.not_lt, -Nat.not_le, -List.map_take, hv.rules, hw.rules, hn, hi', hbl, hbn, cl (gx _), cl (gy _), cl (gs _), List.length_append, List.length_cons]
            simpa using k2
          | true =>
            simp (maxSteps := 2000000) (disch := omega) [gd_in, gd_and, wr_i64, test_cx, rest_cx, gcall_cx, gcav_cx, -Int.not_lt, -Int.not_le, -Nat.not_lt, -Nat.not_le, -List.map_take, hv.rules, hw.rules, hn, hi', hbl, hbn, cl (gx _), cl (gy _), cl (gs _), List.length_append, List.length_cons]
            simpa using k1
theorem coords_orders (us : List V) (h : ArgsOk Go.Proofs.Tryz.prog maxLen 8 Go.Proofs.Tryz.f7.params.toList us) : Gives G 7 us [] (.m (.b true)) [] := by
  have e : Go.Proofs.Tryz.f7.params.toList = [24, 38] := by rw [Go.Proofs.Tryz.params7]
  have h := e ▸ h
  have hm : maxLen ≤ 9223372036854775807 := by decide
  obtain ⟨p, v, _, hv, hl, rfl, h1⟩ := arg_pat h
  obtain ⟨w, bs, _, rfl, hw, hl', h2⟩ := arg_boolsO h1
  have := argsOk_nil h2
  subst this
  exact law_orders gives_awake hv hw (by omega) (by omega)
end Go.Mx.Tryz
