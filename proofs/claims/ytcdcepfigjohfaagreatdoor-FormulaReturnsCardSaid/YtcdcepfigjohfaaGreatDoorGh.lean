/- FormulaReturns: the law. -/
import Derived.Test.YtcdcepfigjohfaaGreatDoorGg
set_option linter.unusedSimpArgs false
set_option linter.unusedVariables false
set_option linter.unusedSectionVars false
set_option maxRecDepth 100000
namespace Go.Mx.Tryz

theorem textV_ok {n : Int} {zs : List I} (hz : zs.length ≤ 10000) : (∃ o, textV n zs = .tu [.m (.s o), .m (.i .i64 0)] ∧ parseV o = frmV n (zs.map dI) ∧ o.length ≤ 65536 ∧ (∀ c, c ∈ o → c < 256)) ∨ ∃ o e, textV n zs = .tu [.m (.s o), .m (.i .i64 e)] ∧ e ≠ 0 := by
  unfold textV
  cases hf : frm n zs with
  | false => rw [if_neg (by simp)]; exact .inr ⟨_, _, rfl, by omega⟩
  | true =>
    rw [if_pos rfl]
    have hf' := hf
    unfold frm at hf'
    simp only [Bool.and_eq_true, decide_eq_true_eq] at hf'
    cases ht : txtG (headT n zs.length) zs with
    | none => exact .inr ⟨_, _, rfl, by omega⟩
    | some o =>
      obtain ⟨h1, h2⟩ := txtG_eq _ _ _ ht
      have l1 := itoaN_len n (by omega) (by omega)
      have l2 := itoaN_len (zs.length : Int) (by omega) (by omega)
      have hh : (headT n zs.length).length ≤ 60 := by simp only [headT, List.length_cons, List.length_append, List.length_nil]; omega
      refine .inl ⟨o, rfl, ?_, h2 (by omega), ?_⟩
      · rw [h1]; exact parse_text hf (by omega)
      · rw [h1]; exact text_bytes
theorem textV_back {a : Int} {cls : List (List Int)} (hf : frm a (zcl cls) = true) (ht : tot cls ≤ 2001) : ∃ o, textV a (zcl cls) = .tu [.m (.s o), .m (.i .i64 0)] ∧ parseV o = frmV a cls ∧ o.length ≤ 65536 ∧ (∀ c, c ∈ o → c < 256) := by
  have hlen := tot_len cls
  rcases textV_ok (n := a) (zs := zcl cls) (by simp; omega) with h | ⟨o, e, he, h0⟩
  · rwa [dI_zcl] at h
  · exfalso
    have hf' := hf
    unfold frm at hf'
    simp only [Bool.and_eq_true, decide_eq_true_eq, List.all_eq_true] at hf'
    have l1 := itoaN_len a (by omega) (by omega)
    have l2 := itoaN_len ((zcl cls).length : Int) (by omega) (by simp; omega)
    have hh : (headT a (zcl cls).length).length ≤ 60 := by simp only [headT, List.length_cons, List.length_append, List.length_nil]; omega
    obtain ⟨o', ho'⟩ := txtG_some a hf'.1.2.1 (zcl cls) (headT a (zcl cls).length) hf'.2 (by rw [dI_zcl]; omega)
    unfold textV at he
    rw [if_pos hf, ho'] at he
    cases he
    exact h0 rfl

set_option maxHeartbeats 1000000 in
theorem law_returns (hA : Gives G 10 [] [] (.m (.b true)) []) {z : I} {zs : List I} (hz : IsSl z (ones zs)) (hc : Cls zs) (hl : zs.length ≤ 9223372036854775807) (n : Int) {s : List Nat} (hs : s.length ≤ 9223372036854775807) (hb : ∀ c, c ∈ s → c < 256) :
    Gives G 7 [.m (.ag [.i .i64 n, z]), .m (.s s)] [] (.m (.b true)) [] := by
  refine gives_pur rfl rfl rfl rfl rfl ?_
  have g0 := fun H => few_s hz hc hl n H
  by_cases hf : (decide (zs.length ≤ 60) && zs.all fun z => decide ((dI z).length ≤ 30)) = true
  · rw [hf] at g0
    simp only [Bool.and_eq_true, decide_eq_true_eq, List.all_eq_true] at hf
    by_cases h2 : 2000 < s.length
    · have h2' : (2000 : Int) < s.length := by omega
      simp [cl (g0 _), h2', cl hA]
    · have h2' : ¬ (2000 : Int) < s.length := by omega
      have g1 := fun H => text_s hz hc (by omega) (fun y hy => by have := hf.2 y hy; omega) n H
      have g3 := fun H => parse_s s (by omega) hb H
      obtain ⟨a, cls, e, hp, he1, he0, ht⟩ := parseV_ok s (by omega)
      rw [hp] at g3
      have hlen := tot_len cls
      have hC : Cls (zcl cls) := cls_zcl fun c hc => by have := tot_mem hc; omega
      have hC0 : Cls (zcl (zs.map dI)) := cls_zcl fun c hc => by
        obtain ⟨y, hy, rfl⟩ := List.mem_map.1 hc
        have := hf.2 y hy
        omega
      have hsame : ∀ H, Gives G 17 [.m (.ag [.i .i64 n, zC (zs.map dI)]), .m (.ag [.i .i64 n, z])] H (.m (.b true)) H := fun H => by
        have := same_r (zC_sl (zs.map dI)) hz hC0 hc (by simp; omega) n n H
        rwa [decide_eq_true ⟨rfl, dI_zcl _⟩] at this
      have g5 := fun H => same_r (zC_sl cls) (zC_sl cls) hC hC (by simp; omega) a a H
      rw [decide_eq_true ⟨rfl, rfl⟩] at g5
      by_cases h0 : e = 0
      · subst h0
        obtain ⟨hfr, _⟩ := he0 rfl
        obtain ⟨o, ho1, ho2, ho3, ho4⟩ := textV_back hfr ht
        have g6 := fun H => text_s (zC_sl cls) hC (by simp; omega) (fun y hy => by
          unfold zcl at hy
          obtain ⟨c, hc, rfl⟩ := List.mem_map.1 hy
          rw [dI_celI]
          have := tot_mem hc
          omega) a H
        rw [ho1] at g6
        have g7 := fun H => parse_s o ho3 ho4 H
        rw [ho2] at g7
        have g8 := fun H => right_s (zC_sl cls) hC (by simp; omega) a H
        rw [hfr] at g8
        rcases textV_ok (n := n) (zs := zs) (by omega) with ⟨p, hp1, hp2, hp3, hp4⟩ | ⟨p, e, hp1, hp2⟩
        · rw [hp1] at g1
          have g2 := fun H => parse_s p hp3 hp4 H
          rw [hp2] at g2
          simp [cl (g0 _), h2', cl (g1 _), cl (g2 _), cl (g3 _), cl (g5 _), cl (g6 _), cl (g7 _), cl (g8 _), cl (hsame _), formT, frmV, zC_one, cl hA, gcall_cx]
        · rw [hp1] at g1
          simp [cl (g0 _), h2', cl (g1 _), hp2, cl (g3 _), cl (g5 _), cl (g6 _), cl (g7 _), cl (g8 _), formT, frmV, zC_one, cl hA, gcall_cx]
      · obtain ⟨rfl, rfl⟩ := he1 h0
        have hz0 : zC [] = .nl 4 := rfl
        rcases textV_ok (n := n) (zs := zs) (by omega) with ⟨p, hp1, hp2, hp3, hp4⟩ | ⟨p, e', hp1, hp2⟩
        · rw [hp1] at g1
          have g2 := fun H => parse_s p hp3 hp4 H
          rw [hp2] at g2
          simp [cl (g0 _), h2', cl (g1 _), cl (g2 _), cl (g3 _), cl (hsame _), formT, frmV, zC_one, hz0, h0, cl hA, gcall_cx]
        · rw [hp1] at g1
          simp [cl (g0 _), h2', cl (g1 _), hp2, cl (g3 _), formT, frmV, zC_one, hz0, h0, cl hA, gcall_cx]
  · rw [Bool.not_eq_true] at hf
    rw [hf] at g0
    simp [cl (g0 _), cl hA]
theorem formula_returns (us : List V) (h : ArgsOk Go.Proofs.Tryz.prog maxLen 8 Go.Proofs.Tryz.f7.params.toList us) : Gives G 7 us [] (.m (.b true)) [] := by
  have e : Go.Proofs.Tryz.f7.params.toList = [24, 9] := by rw [Go.Proofs.Tryz.params7]
  have h := e ▸ h
  have hm : maxLen ≤ 9223372036854775807 := by decide
  obtain ⟨n, z, zs, _, rfl, hz, hc, hl, h1⟩ := arg_frm hm h
  obtain ⟨s, _, rfl, hs, hb, h2⟩ := arg_str h1
  have := argsOk_nil h2
  subst this
  exact law_returns gives_awake hz hc (by omega) n (by omega) hb
end Go.Mx.Tryz
