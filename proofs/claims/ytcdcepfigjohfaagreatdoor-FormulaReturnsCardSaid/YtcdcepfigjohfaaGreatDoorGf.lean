/- FormulaTexts: both formulas compared; the law. -/
import Derived.Test.YtcdcepfigjohfaaGreatDoorGe
import Derived.Test.YtcdcepfigjohfaaGreatDoorFr
set_option linter.unusedSimpArgs false
set_option linter.unusedVariables false
set_option linter.unusedSectionVars false
set_option maxRecDepth 100000
namespace Go.Mx.Tryz

theorem equal_r {z y : I} {c d : List Int} (hz : IsSl z (celI c)) (hy : IsSl y (celI d)) (hc : c.length ≤ 9223372036854775807) (H : Hp) : Gives G 22 [.m z, .m y] H (.m (.b (decide (c = d)))) H := by
  refine gives_pur rfl rfl rfl rfl rfl ?_
  by_cases hl : c.length = d.length
  · have hl' : (c.length : Int) = d.length := by omega
    simp [hz.rules, hy.rules, hl]
    refine (?key : ∀ (i : Nat) (B : List (Nat × List V)), i ≤ c.length → c.take i = d.take i → Run G c22_B0 (S22_0 (.m z) (.m y) (.m (.i .i64 i)) B []) _) 0 [] (Nat.zero_le _) rfl
    refine indM (fun i : Nat => c.length - i) fun i ih B hi hq => ?_
    unfold c22_B0
    cases hx : c[i]? with
    | none =>
      have : i = c.length := by have := List.getElem?_eq_none_iff.1 hx; omega
      subst this
      have e : c = d := by
        rw [List.take_length] at hq
        rw [hq, List.take_of_length_le (by omega)]
      subst e
      simp [hz.rules]
    | some x =>
      have hlt := (get_drop hx).1
      have hn := celI_nth hx
      obtain ⟨w, hw⟩ : ∃ w, d[i]? = some w := ⟨d[i]'(by omega), List.getElem?_eq_getElem _⟩
      have hn2 := celI_nth hw
      have hlt2 : i < d.length := by omega
      have wi : wr .i64 ((i : Int) + 1) = (i : Int) + 1 := wr_i64 (by omega) (by omega)
      by_cases hxw : x = w
      · subst hxw
        simp [hz.rules, hy.rules, hn, hn2, hlt, hlt2, wi]
        refine ih (i + 1) (by omega) _ (by omega) ?_
        rw [take_succ_get hx, take_succ_get hw, hq]
      · have e : ¬ c = d := fun e => hxw (by subst e; rw [hx] at hw; cases hw; rfl)
        simp [hz.rules, hy.rules, hn, hn2, hlt, hlt2, hxw, e]
  · have hl' : ¬ (c.length : Int) = d.length := by omega
    have e : ¬ c = d := fun e => hl (by rw [e])
    simp [hz.rules, hy.rules, hl', e]

theorem same_r {z y : I} {zs ys : List I} (hz : IsSl z (ones zs)) (hy : IsSl y (ones ys)) (hc : Cls zs) (hd : Cls ys) (hcl : zs.length ≤ 9223372036854775807) (n m : Int) (H : Hp) :
    Gives G 17 [.m (.ag [.i .i64 n, z]), .m (.ag [.i .i64 m, y])] H (.m (.b (decide (n = m ∧ zs.map dI = ys.map dI)))) H := by
  refine gives_pur rfl rfl rfl rfl rfl ?_
  by_cases hnm : n = m
  · subst hnm
    by_cases hl : zs.length = ys.length
    · simp [hz.rules, hy.rules, hl]
      refine (?key : ∀ (i : Nat) (B : List (Nat × List V)), i ≤ zs.length → getB B 2 = some [.m (.i .i64 n), .m z] → getB B 3 = some [.m (.i .i64 n), .m y] → (zs.map dI).take i = (ys.map dI).take i → Run G c17_B0 (S17_0 (.fa 2 0) (.fa 3 0) (.m (.i .i64 i)) B []) _) 0 _ (Nat.zero_le _) rfl rfl rfl
      refine indM (fun i : Nat => zs.length - i) fun i ih B hi hB2 hB3 hq => ?_
      unfold c17_B0
      cases hx : zs[i]? with
      | none =>
        have : i = zs.length := by have := List.getElem?_eq_none_iff.1 hx; omega
        subst this
        have e : zs.map dI = ys.map dI := by
          have h1 : (zs.map dI).take zs.length = zs.map dI := List.take_of_length_le (by simp)
          have h2 : (ys.map dI).take zs.length = ys.map dI := List.take_of_length_le (by simp; omega)
          rw [h1, h2] at hq
          exact hq
        simp [hz.rules, hB2, e]
      | some x =>
        have hlt := (get_drop hx).1
        have hn := ones_nth hx
        obtain ⟨w, hw⟩ : ∃ w, ys[i]? = some w := ⟨ys[i]'(by omega), List.getElem?_eq_getElem _⟩
        have hn2 := ones_nth hw
        have hlt2 : i < ys.length := by omega
        have wi : wr .i64 ((i : Int) + 1) = (i : Int) + 1 := wr_i64 (by omega) (by omega)
        have h1 := hc x (List.mem_of_getElem? hx)
        have h2 := hd w (List.mem_of_getElem? hw)
        have ge := fun H => equal_r h1.1 h2.1 h1.2 H
        have hxm : (zs.map dI)[i]? = some (dI x) := by simp [hx]
        have hwm : (ys.map dI)[i]? = some (dI w) := by simp [hw]
        by_cases hxw : dI x = dI w
        · rw [decide_eq_true hxw] at ge
          simp [hz.rules, hy.rules, hn, hn2, hlt, hlt2, wi, hB2, hB3, cl (ge _)]
          refine ih (i + 1) (by omega) _ (by omega) (by simpa using hB2) (by simpa using hB3) ?_
          rw [take_succ_get hxm, take_succ_get hwm, hq, hxw]
        · have e : ¬ zs.map dI = ys.map dI := fun e => hxw (by rw [e, hwm] at hxm; exact (Option.some.inj hxm).symm)
          rw [decide_eq_false hxw] at ge
          simp [hz.rules, hy.rules, hn, hn2, hlt, hlt2, hB2, hB3, cl (ge _), e]
    · have e : ¬ zs.map dI = ys.map dI := fun e => hl (by have := congrArg List.length e; simpa using this)
      have hl' : ¬ (zs.length : Int) = ys.length := by omega
      simp [hz.rules, hy.rules, hl', e]
  · simp [hnm]

theorem zC_one (cls : List (List Int)) : oneV (.m (zC cls)) = true := by
  unfold zC
  split <;> rfl
def formT (a : Int) (cls : List (List Int)) (e : Int) : V := .tu [.m (.ag [.i .i64 a, zC cls]), .m (.i .i64 e)]
theorem cutI_mem : ∀ (n : Nat) (l : List Int) (out : List (List Int)), ∀ c, c ∈ (cutI n l out).2 → c ∈ out ∨ c.length ≤ l.length
  | 0, l, out, c, h => by
    have e : cutI 0 l out = if l = [] then (0, out) else (3, []) := rfl
    rw [e] at h
    split at h
    · exact .inl h
    · cases h
  | n + 1, l, out, c, h => by
    have e : cutI (n + 1) l out = match brk l with | none => (4, []) | some p => cutI n p.2 (out ++ [p.1]) := rfl
    rw [e] at h
    cases hb : brk l with
    | none => rw [hb] at h; cases h
    | some p =>
      rw [hb] at h
      obtain ⟨h1, _⟩ := brk_some l p.1 p.2 hb
      have hl := congrArg List.length h1
      simp only [List.length_append, List.length_cons] at hl
      rcases cutI_mem n p.2 _ c h with h | h
      · rcases List.mem_append.1 h with h | h
        · exact .inl h
        · simp at h; subst h; exact .inr (by omega)
      · exact .inr (by omega)
theorem cutI_len : ∀ (n : Nat) (l : List Int) (out : List (List Int)), (cutI n l out).2.length ≤ out.length + l.length
  | 0, l, out => by
    have e : cutI 0 l out = if l = [] then (0, out) else (3, []) := rfl
    rw [e]
    split
    · exact Nat.le_add_right _ _
    · exact Nat.zero_le _
  | n + 1, l, out => by
    have e : cutI (n + 1) l out = match brk l with | none => (4, []) | some p => cutI n p.2 (out ++ [p.1]) := rfl
    rw [e]
    cases hb : brk l with
    | none => exact Nat.zero_le _
    | some p =>
      obtain ⟨h1, _⟩ := brk_some l p.1 p.2 hb
      have hl := congrArg List.length h1
      have := cutI_len n p.2 (out ++ [p.1])
      simp only [List.length_append, List.length_cons, List.length_nil] at hl this
      show (cutI n p.2 (out ++ [p.1])).2.length ≤ _
      omega
theorem parseV_form (s : List Nat) : ∃ a cls e, parseV s = formT a cls e ∧ (e ≠ 0 → a = 0 ∧ cls = []) ∧ cls.length ≤ s.length + 1 ∧ ∀ c, c ∈ cls → c.length ≤ s.length + 1 := by
  have er : ∀ e : Int, ∃ a cls e', errV e = formT a cls e' ∧ (e' ≠ 0 → a = 0 ∧ cls = []) ∧ cls.length ≤ s.length + 1 ∧ ∀ c, c ∈ cls → c.length ≤ s.length + 1 := fun e => ⟨0, [], e, rfl, fun _ => ⟨rfl, rfl⟩, by simp, by simp⟩
  unfold parseV
  split
  · have hl := txtW_len s
    cases hn : numsI ((txtW s).drop 2) with
    | none => exact er 15
    | some x =>
      have hx := numsI_len _ _ hn
      rw [List.length_drop] at hx
      match x, hx with
      | [], _ => exact er 15
      | [_], _ => exact er 15
      | a :: b :: l, hx =>
        have hV : numsV (some (a :: b :: l)) = if a < 0 ∨ b < 0 then errV 15 else if 65536 < a then errV 5 else if l.any (outside a) = true then errV 5 else if 262144 < b then errV 6 else cutV a (cutI b.toNat l []) := rfl
        rw [hV]
        simp only [List.length_cons] at hx
        split
        · exact er 15
        · split
          · exact er 5
          · split
            · exact er 5
            · split
              · exact er 6
              · unfold cutV
                split
                · refine ⟨a, (cutI b.toNat l []).2, 0, rfl, fun h => absurd rfl h, ?_, fun c hc => ?_⟩
                  · have := cutI_len b.toNat l []
                    simp only [List.length_nil] at this
                    omega
                  · rcases cutI_mem _ _ _ c hc with h | h
                    · cases h
                    · omega
                · exact er _
  · exact er 15
theorem aggStr : aggT Go.Proofs.Tryz.prog 9 = some false := by unfold aggT; rw [Go.Proofs.Tryz.underlying9]; rfl
theorem arg_str {B n : Nat} {ts : List TypeId} {us : List V} (h : ArgsOk Go.Proofs.Tryz.prog B (n + 1) (9 :: ts) us) : ∃ (s : List Nat) (r : List V), us = .m (.s s) :: r ∧ s.length ≤ B ∧ (∀ c, c ∈ s → c < 256) ∧ ArgsOk Go.Proofs.Tryz.prog B (n + 1) ts r := by
  obtain ⟨l, r, rfl, hl, h'⟩ := argsOk_cons h
  unfold Fits at hl
  rw [Go.Proofs.Tryz.underlying9] at hl
  obtain ⟨s, rfl, h1, h2⟩ := hl
  rw [argV_one aggStr]
  exact ⟨s, r, rfl, h1, h2, h'⟩
theorem textV_form (n : Int) (zs : List I) : ∃ o e, textV n zs = .tu [.m (.s o), .m (.i .i64 e)] := by
  unfold textV
  split
  · split
    · exact ⟨_, _, rfl⟩
    · exact ⟨_, _, rfl⟩
  · exact ⟨_, _, rfl⟩

theorem law_texts (hA : Gives G 10 [] [] (.m (.b true)) []) {z : I} {zs : List I} (hz : IsSl z (ones zs)) (hc : Cls zs) (hl : zs.length ≤ 9223372036854775807) (n : Int) {s : List Nat} (hs : s.length ≤ 9223372036854775807) (hb : ∀ c, c ∈ s → c < 256) :
    Gives G 6 [.m (.ag [.i .i64 n, z]), .m (.s s)] [] (.m (.b true)) [] := by
  refine gives_pur rfl rfl rfl rfl rfl ?_
  have g0 := fun H => few_s hz hc hl n H
  by_cases hf : (decide (zs.length ≤ 60) && zs.all fun z => decide ((dI z).length ≤ 30)) = true
  · rw [hf] at g0
    simp only [Bool.and_eq_true, decide_eq_true_eq, List.all_eq_true] at hf
    by_cases h2 : 2000 < s.length
    · have h2' : (2000 : Int) < s.length := by omega
      simp [cl (g0 _), h2', cl hA]
    · have h2' : ¬ (2000 : Int) < s.length := by omega
      have g1 := fun H => text_s hz hc (by omega) (fun y hy => by have := hf.2 y hy; omega) n H
      have g2 := fun H => text_r hz hc hf.1 hf.2 n H
      have g3 := fun H => parse_s s (by omega) hb H
      have g4 := fun H => parse_r s (by omega) hb H
      obtain ⟨o, e, ht⟩ := textV_form n zs
      obtain ⟨a, cls, e2, hp, _, hcl, hcm⟩ := parseV_form s
      have hC := cls_zcl fun c hc => by have := hcm c hc; omega
      have g5 := fun H => same_r (zC_sl cls) (zC_sl cls) hC hC (by simp; omega) a a H
      rw [decide_eq_true ⟨rfl, rfl⟩] at g5
      rw [ht] at g1 g2
      rw [hp] at g3 g4
      simp [cl (g0 _), h2', cl (g1 _), cl (g2 _), cl (g3 _), cl (g4 _), cl (g5 _), formT, zC_one, cl hA, gcall_cx]
  · rw [Bool.not_eq_true] at hf
    rw [hf] at g0
    simp [cl (g0 _), cl hA]
theorem formula_texts (us : List V) (h : ArgsOk Go.Proofs.Tryz.prog maxLen 8 Go.Proofs.Tryz.f6.params.toList us) : Gives G 6 us [] (.m (.b true)) [] := by
  have e : Go.Proofs.Tryz.f6.params.toList = [24, 9] := by rw [Go.Proofs.Tryz.params6]
  have h := e ▸ h
  have hm : maxLen ≤ 9223372036854775807 := by decide
  obtain ⟨n, z, zs, _, rfl, hz, hc, hl, h1⟩ := arg_frm hm h
  obtain ⟨s, _, rfl, hs, hb, h2⟩ := arg_str h1
  have := argsOk_nil h2
  subst this
  exact law_texts gives_awake hz hc (by omega) n (by omega) hb
end Go.Mx.Tryz
