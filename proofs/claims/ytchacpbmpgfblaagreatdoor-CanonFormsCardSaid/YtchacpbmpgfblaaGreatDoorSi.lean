/- Form, Alike, Syms of the reference; Alike of the program. -/
import Derived.Test.YtchacpbmpgfblaaGreatDoorSg
set_option linter.unusedSimpArgs false
set_option linter.unusedVariables false
set_option linter.unusedSectionVars false
set_option maxRecDepth 100000
namespace Go.Mx.Tryz
open Go.Sort Go.Lib Go.Proofs

set_option maxHeartbeats 2000000 in
theorem form_r {v z : I} {p : List Ce} {l g : List Int} (hv : IsSl v (cells3 p)) (hp : right p = true) (hlg : largeC p = false) (hz : IsSl z (celI l)) (hl : l.length ≤ 1000000) (hk : ∀ k, k ∈ l → -9223372036854775808 ≤ k ∧ k ≤ 9223372036854775807) (hg : Grp l g) (H : Hp) :
  Gives G 8 [.m v, .m z] H (.tu [.m (zP (bestC p (homeC p) g)), .m (.i .i64 0)]) H := by
 have hpl : p.length ≤ 5000 := (right_pw hp).2.2
 have hgl := grp_len hg
 have hs := span_of hp hlg
 have g1 := fun H => right_r hv (by omega) H
 rw [hp] at g1
 have g2 := fun H => large_r hv (by omega) H
 rw [hlg] at g2
 have g3 := fun H => grp_r hz hl hk hg H
 have g4 := fun H => img_r hv hp hs 0 (by omega) H
 rw [show modS 0 = 0 from by decide, img_0 (right_pw hp).1] at g4
 have hrg := (zN_sl g).rules
 simp only [celI_len] at hrg
 refine gives_pur rfl rfl rfl rfl rfl ?_
 simp (maxSteps := 2000000) (disch := omega) [gd_in, gd_and, wr_i64, cl (g1 _), cl (g2 _), cl (g3 _), cl (g4 _)]
 refine (?key : ∀ (i : Nat) (b : List Ce) (B : List (Nat × List V)), i ≤ g.length → b = bestC p (homeC p) (g.take i) → Run G c8_B0 (S8_0 (.m v) (.m (zN g)) (.m (zP b)) (.m (.i .i64 (i : Int))) B []) _) 0 _ _ (Nat.zero_le _) rfl
 refine indM (fun i : Nat => g.length - i) fun i ih b B hi hb => ?_
 unfold c8_B0
 have hbl : b.length = p.length := by rw [hb]; exact bestC_len (home_len p) _ _ rfl
 cases hx : g[i]? with
 | some k =>
  have hlt := (get_drop hx).1
  have hlt' : (i : Int) < g.length := by omega
  have hn : nth (celI g) i = some [.i .i64 k] := by rw [nth_get]; simp [celI, hx]
  have wi : wr .i64 ((i : Int) + 1) = (i : Int) + 1 := wr_i64 (by omega) (by omega)
  have htk : g.take (i + 1) = g.take i ++ [k] := take_succ_get hx
  have hk8 := grp_mem hg k (List.mem_of_getElem? hx)
  have gi := fun H => img_r hv hp hs k (by omega) H
  have gc := fun H => compare_r (zP_sl (imgC (modS k) p)) (zP_sl b) (by rw [img_len]; omega) (by omega) H
  have es : bestC p (homeC p) (g.take (i + 1)) = stepM p b k := by rw [htk, bestC_snoc, hb]
  by_cases hc : cmpL (imgC (modS k) p) b < 0
  ·rw [show stepM p b k = imgC (modS k) p from by unfold stepM; rw [if_pos hc]] at es
   simp (maxSteps := 2000000) (disch := omega) [gd_in, gd_and, wr_i64, hrg, hlt, hlt', hn, wi, cl (gi _), cl (gc _), hc]
   exact ih (i + 1) (by omega) _ _ (by omega) es.symm
  ·rw [show stepM p b k = b from by unfold stepM; rw [if_neg hc]] at es
   simp (maxSteps := 2000000) (disch := omega) [gd_in, gd_and, wr_i64, hrg, hlt, hlt', hn, wi, cl (gi _), cl (gc _), hc]
   exact ih (i + 1) (by omega) _ _ (by omega) es.symm
 | none =>
  have : i = g.length := by have := List.getElem?_eq_none_iff.1 hx; omega
  subst this
  rw [List.take_length] at hb
  subst hb
  simp (maxSteps := 2000000) (disch := omega) [gd_in, gd_and, wr_i64, hrg]
def formE (p : List Ce) : Option Int := if right p = true then if largeC p = true then some 5 else none else some 2
theorem formE_none {p : List Ce} (h : formE p = none) : right p = true ∧ largeC p = false := by
 unfold formE at h
 cases hr : right p <;> cases hl : largeC p <;> simp_all
theorem form_se {v z : I} {p : List Ce} {e : Int} (hv : IsSl v (cells3 p)) (hl : (p.length : Int) ≤ 9223372036854775807) (he : formE p = some e) (H : Hp) : Gives G 7 [.m v, .m z] H (.tu [.m (.nl 4), .m (.i .i64 e)]) H := by
 refine gives_pur rfl rfl rfl rfl rfl ?_
 have g1 := fun H => right_s hv hl H
 have g2 := fun H => large_s hv hl H
 unfold formE at he
 cases hr : right p with
 | false =>
  rw [hr] at g1 he
  cases he
  simp (maxSteps := 2000000) (disch := omega) [gd_in, gd_and, wr_i64, cl (g1 _)]
 | true =>
  rw [hr] at g1 he
  cases hg : largeC p with
  | false => rw [hg] at he; cases he
  | true =>
   rw [hg] at g2 he
   cases he
   simp (maxSteps := 2000000) (disch := omega) [gd_in, gd_and, wr_i64, cl (g1 _), cl (g2 _)]
theorem form_re {v z : I} {p : List Ce} {e : Int} (hv : IsSl v (cells3 p)) (hl : (p.length : Int) ≤ 9223372036854775807) (he : formE p = some e) (H : Hp) : Gives G 8 [.m v, .m z] H (.tu [.m (.nl 4), .m (.i .i64 e)]) H := by
 refine gives_pur rfl rfl rfl rfl rfl ?_
 have g1 := fun H => right_r hv hl H
 have g2 := fun H => large_r hv hl H
 unfold formE at he
 cases hr : right p with
 | false =>
  rw [hr] at g1 he
  cases he
  simp (maxSteps := 2000000) (disch := omega) [gd_in, gd_and, wr_i64, cl (g1 _)]
 | true =>
  rw [hr] at g1 he
  cases hg : largeC p with
  | false => rw [hg] at he; cases he
  | true =>
   rw [hg] at g2 he
   cases he
   simp (maxSteps := 2000000) (disch := omega) [gd_in, gd_and, wr_i64, cl (g1 _), cl (g2 _)]
def formC (p : List Ce) (g : List Int) : List Ce := if formE p = none then bestC p (homeC p) g else []
def codeE (p : List Ce) : Int := (formE p).getD 0
theorem formC_len (p : List Ce) (g : List Int) : (formC p g).length ≤ p.length := by
 unfold formC
 split
 ·rw [bestC_len (home_len p) _ _ rfl]; exact Nat.le_refl _
 ·exact Nat.zero_le _
theorem form_S {v z : I} {p : List Ce} {l g : List Int} (hv : IsSl v (cells3 p)) (hpl : (p.length : Int) ≤ 9223372036854775807) (hz : IsSl z (celI l)) (hl : l.length ≤ 1000000) (hg : Grp l g) :
  ∃ w, IsSl w (cells3 (formC p g)) ∧ ∀ H, Gives G 7 [.m v, .m z] H (.tu [.m w, .m (.i .i64 (codeE p))]) H := by
 cases he : formE p with
 | some e =>
  refine ⟨.nl 4, ?_, fun H => ?_⟩
  ·unfold formC
   rw [he, if_neg (by simp)]
   exact isSl_nil
  ·unfold codeE
   rw [he]
   exact form_se hv hpl he H
 | none =>
  obtain ⟨hr, hlg⟩ := formE_none he
  obtain ⟨w, hw, hg0⟩ := form_s hv hr hlg hz hl hg []
  refine ⟨w, ?_, fun H => ?_⟩
  ·unfold formC
   rw [he, if_pos rfl]
   exact hw
  ·obtain ⟨w', hw', hg1⟩ := form_s hv hr hlg hz hl hg H
   unfold codeE
   rw [he]
   have := gives_view (H := H) (vs := [.m v, .m z]) (is := [v, z]) rfl rfl hg0 rfl (.inl ⟨rfl, rfl⟩)
   exact this
theorem form_R {v z : I} {p : List Ce} {l g : List Int} (hv : IsSl v (cells3 p)) (hpl : (p.length : Int) ≤ 9223372036854775807) (hz : IsSl z (celI l)) (hl : l.length ≤ 1000000) (hk : ∀ k, k ∈ l → -9223372036854775808 ≤ k ∧ k ≤ 9223372036854775807) (hg : Grp l g) (H : Hp) :
  Gives G 8 [.m v, .m z] H (.tu [.m (zP (formC p g)), .m (.i .i64 (codeE p))]) H := by
 cases he : formE p with
 | some e =>
  unfold formC codeE
  rw [he, if_neg (by simp)]
  exact form_re hv hpl he H
 | none =>
  obtain ⟨hr, hlg⟩ := formE_none he
  unfold formC codeE
  rw [he, if_pos rfl]
  exact form_r hv hr hlg hz hl hk hg H
def alikeC (p q : List Ce) (g : List Int) : Bool := decide (codeE p = 0) && (decide (codeE q = 0) && decide (cmpL (formC p g) (formC q g) = 0))
theorem alike_s {v w z : I} {p q : List Ce} {l g : List Int} (hv : IsSl v (cells3 p)) (hw : IsSl w (cells3 q)) (hpl : p.length ≤ 1000000) (hql : q.length ≤ 1000000) (hz : IsSl z (celI l)) (hl : l.length ≤ 1000000) (hg : Grp l g) (H : Hp) :
  Gives G 13 [.m v, .m w, .m z] H (.m (.b (alikeC p q g))) H := by
 obtain ⟨a, ha, g1⟩ := form_S hv (by omega) hz hl hg
 obtain ⟨b, hb, g2⟩ := form_S hw (by omega) hz hl hg
 have hal := formC_len p g
 have hbl := formC_len q g
 have g3 := fun H => same_s ha hb (by omega) (by omega) H
 have c1 := isSl_cel ha
 have c2 := isSl_cel hb
 refine gives_pur rfl rfl rfl rfl rfl ?_
 unfold alikeC
 by_cases h1 : codeE p = 0
 ·by_cases h2 : codeE q = 0
  ·simp (maxSteps := 2000000) (disch := omega) [gd_in, gd_and, wr_i64, gcall_cx, cl (g1 _), cl (g2 _), cl (g3 _), h1, h2]
  ·simp (maxSteps := 2000000) (disch := omega) [gd_in, gd_and, wr_i64, gcall_cx, cl (g1 _), cl (g2 _), cl (g3 _), h1, h2]
 ·simp (maxSteps := 2000000) (disch := omega) [gd_in, gd_and, wr_i64, gcall_cx, cl (g1 _), cl (g2 _), cl (g3 _), h1]
theorem alike_r {v w z : I} {p q : List Ce} {l g : List Int} (hv : IsSl v (cells3 p)) (hw : IsSl w (cells3 q)) (hpl : p.length ≤ 1000000) (hql : q.length ≤ 1000000) (hz : IsSl z (celI l)) (hl : l.length ≤ 1000000) (hk : ∀ k, k ∈ l → -9223372036854775808 ≤ k ∧ k ≤ 9223372036854775807) (hg : Grp l g) (H : Hp) :
  Gives G 14 [.m v, .m w, .m z] H (.m (.b (alikeC p q g))) H := by
 have g1 := fun H => form_R hv (by omega) hz hl hk hg H
 have g2 := fun H => form_R hw (by omega) hz hl hk hg H
 have hal := formC_len p g
 have hbl := formC_len q g
 have g3 := fun H => refSame_r (zP_sl (formC p g)) (zP_sl (formC q g)) (by omega) (by omega) H
 refine gives_pur rfl rfl rfl rfl rfl ?_
 unfold alikeC
 by_cases h1 : codeE p = 0
 ·by_cases h2 : codeE q = 0
  ·simp (maxSteps := 2000000) (disch := omega) [gd_in, gd_and, wr_i64, gcall_cx, cl (g1 _), cl (g2 _), cl (g3 _), h1, h2]
  ·simp (maxSteps := 2000000) (disch := omega) [gd_in, gd_and, wr_i64, gcall_cx, cl (g1 _), cl (g2 _), cl (g3 _), h1, h2]
 ·simp (maxSteps := 2000000) (disch := omega) [gd_in, gd_and, wr_i64, gcall_cx, cl (g1 _), cl (g2 _), cl (g3 _), h1]
set_option maxHeartbeats 2000000 in
theorem symsR_r {v : I} {p : List Ce} (hv : IsSl v (cells3 p)) (hp : right p = true) (hlg : largeC p = false) (H : Hp) : Gives G 12 [.m v] H (.m (zN (symL p all8))) H := by
 have hpl : p.length ≤ 5000 := (right_pw hp).2.2
 have hs := span_of hp hlg
 have g1 := fun H => right_r hv (by omega) H
 rw [hp] at g1
 have g2 := fun H => large_r hv (by omega) H
 rw [hlg] at g2
 have g4 := fun H => img_r hv hp hs 0 (by omega) H
 rw [show modS 0 = 0 from by decide, img_0 (right_pw hp).1] at g4
 refine gives_pur rfl rfl rfl rfl rfl ?_
 simp (maxSteps := 2000000) (disch := omega) [gd_in, gd_and, wr_i64, gcall_cx, cl (g1 _), cl (g2 _)]
 refine (?key : ∀ (i : Nat) (o : V) (B : List (Nat × List V)) (H : Hp), i ≤ 8 → NumP [] (symL p (all8.take i)) o H → Run G c12_B0 (S12_0 (.m v) o (.m (.i .i64 (i : Int))) B H) _) 0 _ _ _ (Nat.zero_le _) (.inl ⟨rfl, rfl, rfl⟩)
 refine indM (fun i : Nat => 8 - i) fun i ih o B H hi ho => ?_
 unfold c12_B0
 have hsl : (symL p (all8.take i)).length ≤ 8 := Nat.le_trans (List.length_filter_le _ _) (by rw [List.length_take]; exact Nat.min_le_right _ _)
 by_cases h8 : i < 8
 ·have h8' : (i : Int) < 8 := by omega
  have wi : wr .i64 ((i : Int) + 1) = (i : Int) + 1 := wr_i64 (by omega) (by omega)
  have hx : all8[i]? = some (i : Int) := by
   have : ∀ i : Fin 8, all8[i.1]? = some ((i.1 : Nat) : Int) := by decide
   exact this ⟨i, h8⟩
  have htk : all8.take (i + 1) = all8.take i ++ [(i : Int)] := take_succ_get hx
  have gi := fun H => img_r hv hp hs (i : Int) (by omega) H
  have gc := fun H => refSame_r (zP_sl (imgC (modS (i : Int)) p)) (zP_sl (homeC p)) (by rw [img_len]; omega) (by rw [home_len]; omega) H
  have es := symL_snoc p (all8.take i) (i : Int)
  rw [← htk] at es
  obtain ⟨hnf, _⟩ := numP_nf ho
  cases hc : symK p (i : Int) with
  | true =>
   rw [hc, if_pos rfl] at es
   unfold symK at hc
   rw [hc] at gc
   obtain ⟨o1, H1, hap, hn1, ho1⟩ := numP_push ho (by omega) (i : Int)
   rw [← es] at ho1
   simp (maxSteps := 2000000) (disch := omega) [gd_in, gd_and, wr_i64, h8', wi, cl (gi _), cl (g4 _), cl (gc _), hap, setC_v hn1, setC_v hnf]
   exact ih (i + 1) (by omega) _ _ _ (by omega) ho1
  | false =>
   rw [hc, if_neg (by simp), List.append_nil] at es
   unfold symK at hc
   rw [hc] at gc
   simp (maxSteps := 2000000) (disch := omega) [gd_in, gd_and, wr_i64, h8', wi, cl (gi _), cl (g4 _), cl (gc _), setC_v hnf]
   exact ih (i + 1) (by omega) _ _ _ (by omega) (by rw [es]; exact ho)
 ·have : i = 8 := by omega
  subst this
  have hvw := numP_view ho
  have e8 : symL p (all8.take 8) = symL p all8 := rfl
  rw [e8] at hvw
  obtain ⟨hnf, _⟩ := numP_nf ho
  simp (maxSteps := 2000000) (disch := omega) [gd_in, gd_and, wr_i64, hvw, setC_v hnf]
  exact hnf
theorem symsR_no {v : I} {p : List Ce} (hv : IsSl v (cells3 p)) (hl : (p.length : Int) ≤ 9223372036854775807) (h : right p = false ∨ largeC p = true) (H : Hp) : Gives G 12 [.m v] H (.m (.nl 4)) H := by
 refine gives_pur rfl rfl rfl rfl rfl ?_
 have g1 := fun H => right_r hv hl H
 have g2 := fun H => large_r hv hl H
 cases hr : right p with
 | false =>
  rw [hr] at g1
  simp (maxSteps := 2000000) (disch := omega) [gd_in, gd_and, wr_i64, gcall_cx, cl (g1 _)]
 | true =>
  rw [hr] at g1
  have hg : largeC p = true := by
   rcases h with h | h
   ·rw [hr] at h; cases h
   ·exact h
  rw [hg] at g2
  simp (maxSteps := 2000000) (disch := omega) [gd_in, gd_and, wr_i64, gcall_cx, cl (g1 _), cl (g2 _)]
end Go.Mx.Tryz
