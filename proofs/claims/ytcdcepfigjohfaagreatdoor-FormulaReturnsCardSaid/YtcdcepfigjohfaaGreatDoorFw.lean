/- cellularref40.Text at the machine. -/
import Derived.Test.YtcdcepfigjohfaaGreatDoorFv
set_option linter.unusedSimpArgs false
set_option linter.unusedVariables false
set_option linter.unusedSectionVars false
set_option maxRecDepth 100000
namespace Go.Mx.Tryz
open Go.Lib

theorem app_new0 (l : List Nat) (hne : l ≠ []) (hl : l.length ≤ 140737488355328) (B : List (Nat × List V)) : appX ⟨B, []⟩ 5 1 1 (.m (.nl 4)) (l.map fun c : Nat => [V.m (.i .u8 (c : Int))]) = some (oV l, ⟨B, [oR l 0]⟩) := by
  obtain ⟨c, r, rfl⟩ := List.exists_cons_of_ne_nil hne
  exact s2r_new (c :: r) hl B

set_option maxHeartbeats 1000000 in
theorem text_r {z : I} {zs : List I} (hz : IsSl z (ones zs)) (hc : Cls zs) (h60 : zs.length ≤ 60) (h30 : ∀ y, y ∈ zs → (dI y).length ≤ 30) (n : Int) (H : Hp) : Gives G 24 [.m (.ag [.i .i64 n, z])] H (textV n zs) H := by
  refine gives_pur rfl rfl rfl rfl rfl ?_
  have hr := right_r hz hc (by omega) n []
  cases hf : frm n zs with
  | false =>
    rw [hf] at hr
    simp [cl hr, textV, hf]
  | true =>
    rw [hf] at hr
    obtain ⟨hn1, hls⟩ := frm_lits hf
    have hn0 : 0 ≤ n := by
      unfold frm at hf
      simp only [Bool.and_eq_true, decide_eq_true_eq] at hf
      exact hf.1.1
    have l1 := itoaN_len n (by omega) (by omega)
    have l2 := itoaN_len (zs.length : Int) (by omega) (by omega)
    have hT : textV n zs = (match txtG (headT n zs.length) zs with | some o => .tu [.m (.s o), .m (.i .i64 0)] | none => .tu [.m (.s []), .m (.i .i64 6)]) := if_pos hf
    have hh : (headT n zs.length).length ≤ 60 := by simp only [headT, List.length_cons, List.length_append, List.length_nil]; omega
    have hnew := app_new0 (headT n zs.length) (by simp [headT]) (by omega)
    have hbyte : ∀ c, c ∈ headT n zs.length → c < 256 := fun c hc => by
      simp only [headT, List.mem_cons, List.mem_append, List.not_mem_nil, or_false] at hc
      rcases hc with h | h | h | h | h | h | h | h | h | h
      all_goals first | omega | exact itoaN_byte _ _ h
    have hdef : 112 :: 32 :: 99 :: 110 :: 102 :: 32 :: (itoaN n ++ 32 :: (itoaN zs.length ++ [10])) = headT n zs.length := rfl
    have g1 := decimal_r n (by omega) (by omega) []
    have g2 := decimal_r (zs.length : Int) (by omega) (by omega) []
    simp (contextual := true) (maxSteps := 2000000) (disch := omega) [test_cx, rest_cx, gcall_cx, gcav_cx, -Int.not_lt, -Int.not_le, -Nat.not_lt, -Nat.not_le, -List.map_take, gd_in, gd_and, cl hr, hz.rules, cl g1, cl g2, hdef, hnew]
    rw [hT]
    clear hT hdef hnew hr g1 g2 l1 l2
    generalize headT n zs.length = o0 at *
    refine (?key : ∀ (i : Nat) (B : List (Nat × List V)) (out : List Nat) (H' : Hp), i ≤ zs.length → getB B 1 = some [.m (.i .i64 n), .m z] → nth H' 0 = some (oR out 0) → out.length ≤ 65536 → (∀ c, c ∈ out → c < 256) → txtG o0 zs = txtG out (zs.drop i) → Run G c24_B1 (S24_1 (.fa 1 0) (oV out) (.m (.i .i64 i)) B H') _) 0 _ o0 _ (Nat.zero_le _) rfl rfl (by omega) hbyte rfl
    refine indM (fun i : Nat => zs.length - i) fun i ih B out H' hi hB hH ho hob hq => ?_
    unfold c24_B1
    cases hx : zs[i]? with
    | none =>
      have : i = zs.length := by have := List.getElem?_eq_none_iff.1 hx; omega
      subst this
      have hq : txtG o0 zs = some out := by rw [hq, List.drop_length]; rfl
      have hs := b2s_oV hH (Nat.zero_le _) hob
      simp [hz.rules, hq, hs, hB]
    | some y =>
      have hlt := (get_drop hx).1
      have hn := ones_nth hx
      have hmem := List.mem_of_getElem? hx
      have hy := hc y hmem
      have hyr := hy.1.rules
      have hl30 := h30 y hmem
      have hly := hls y hmem
      rw [(get_drop hx).2] at hq
      have hg : txtG out (y :: zs.drop (i + 1)) = if 65536 < (out ++ clT (dI y) ++ [48, 10]).length then none else txtG (out ++ clT (dI y) ++ [48, 10]) (zs.drop (i + 1)) := rfl
      rw [hg] at hq
      have hcl := clT_len n hn1 (dI y) hly
      have hi1 : wr .i64 ((i : Int) + 1) = (i : Int) + 1 := wr_i64 (by omega) (by omega)
      have ih := fun B out' H' => ih (i + 1) (by omega) B out' H' (by omega)
      simp [hz.rules, hyr, hn, hlt, hB]
      refine (?key2 : ∀ (j : Nat) (B : List (Nat × List V)) (o : List Nat) (H' : Hp), j ≤ (dI y).length → getB B 1 = some [.m (.i .i64 n), .m z] → nth H' 0 = some (oR o 0) → (∀ c, c ∈ o → c < 256) → out ++ clT (dI y) = o ++ clT ((dI y).drop j) → Run G c24_B0 (S24_0 (.fa 1 0) (oV o) (.m (.i .i64 i)) (.m (.i .i64 j)) B H') _) 0 _ out _ (Nat.zero_le _) (by simpa using hB) hH hob rfl
      refine indM (fun j : Nat => (dI y).length - j) fun j ihj B o H' hj hB hH hob hoq => ?_
      unfold c24_B0
      have hol : o.length ≤ 70000 := by
        have := congrArg List.length hoq
        simp only [List.length_append] at this
        omega
      cases hxj : (dI y)[j]? with
      | none =>
        have : j = (dI y).length := by have := List.getElem?_eq_none_iff.1 hxj; omega
        subst this
        have hoq : out ++ clT (dI y) = o := by rw [hoq, List.drop_length]; simp [clT]
        rw [hoq] at hq
        have ha := fun B => app0 (t := [48, 10]) hH (by simp; omega) B
        have hb : bytR [48, 10] = [[V.m (.i .u8 48)], [V.m (.i .u8 10)]] := rfl
        rw [hb] at ha
        have hH2 : nth (H'.set 0 (oR (o ++ [48, 10]) 0)) 0 = some (oR (o ++ [48, 10]) 0) := by rw [nth_get]; simp [nth_lt0 hH]
        have hob2 : ∀ c, c ∈ o ++ [48, 10] → c < 256 := fun c hc => by
          rcases List.mem_append.1 hc with h | h
          · exact hob c h
          · simp at h; omega
        generalize o ++ [48, 10] = o2 at *
        by_cases hlen : 65536 < o2.length
        · have hlen' : (65536 : Int) < o2.length := by omega
          rw [if_pos hlen] at hq
          simp [hz.rules, hn, hlt, hyr, hB, ha, hlen', hq]
        · have hlen' : ¬ (65536 : Int) < o2.length := by omega
          rw [if_neg hlen] at hq
          simp [hz.rules, hn, hlt, hyr, hB, ha, hlen', hi1]
          exact ih _ _ _ (by simpa using hB) hH2 (by omega) hob2 hq
      | some x =>
        have hltj := (get_drop hxj).1
        have hnj := celI_nth hxj
        have hlx : lit n x = true := by
          unfold lits at hly
          rw [List.all_eq_true] at hly
          exact hly x (List.mem_of_getElem? hxj)
        have hxr : -65536 ≤ x ∧ x ≤ 65536 := by
          unfold lit at hlx
          simp only [decide_eq_true_eq] at hlx
          omega
        have hxl := itoaN_len x (by omega) (by omega)
        have g := fun H => decimal_r x (by omega) (by omega) H
        have hll := lit_len x n hlx hn1
        have hlt' : itoaN x ++ [32] = litT x := rfl
        have hla : (itoaN x).length + 1 ≤ 9223372036854775807 := by omega
        have ha : ∀ B, appX ⟨B, H'⟩ 5 1 1 (oV o) ((litT x).map fun c : Nat => [V.m (.i .u8 (c : Int))]) = some (oV (o ++ litT x), ⟨B, H'.set 0 (oR (o ++ litT x) 0)⟩) := fun B => app0 (t := litT x) hH (by omega) B
        have hH3 : nth (H'.set 0 (oR (o ++ litT x) 0)) 0 = some (oR (o ++ litT x) 0) := by rw [nth_get]; simp [nth_lt0 hH]
        have hj1 : wr .i64 ((j : Int) + 1) = (j : Int) + 1 := wr_i64 (by omega) (by omega)
        rw [(get_drop hxj).2] at hoq
        have hcx : clT (x :: (dI y).drop (j + 1)) = litT x ++ clT ((dI y).drop (j + 1)) := rfl
        rw [hcx, ← List.append_assoc] at hoq
        have hob2 : ∀ c, c ∈ o ++ litT x → c < 256 := fun c hc => by
          rcases List.mem_append.1 hc with h | h
          · exact hob c h
          · exact lit_byte x c h
        have ihj := fun B o' H' => ihj (j + 1) (by omega) B o' H' (by omega)
        simp [hz.rules, hn, hlt, hyr, hnj, hltj, hB, cl (g _), hla, hlt', ha, hj1]
        exact ihj _ _ _ (by simpa using hB) hH3 hob2 hoq
end Go.Mx.Tryz
