/- The law FormulaSorts. -/
import Derived.Test.YtcdcepfigjohfaaGreatDoorYh
import Derived.Test.YtcdcepfigjohfaaGreatDoorFs
import Derived.Test.YtcdcepfigjohfaaGreatDoorAwake
set_option linter.unusedSimpArgs false
set_option linter.unusedVariables false
set_option linter.unusedSectionVars false
set_option maxRecDepth 100000
namespace Go.Mx.Tryz

theorem gives_imm {F : Nat} {is : List I} {v : V} {H0 : Hp} (hp : G.prim F = none) (hs : G.sh F = false) (h : Gives G F (is.map .m) H0 v H0) (H : Hp) : Gives G F (is.map .m) H v H := by
 obtain ⟨r1, r2, r3, r4, r5⟩ := refs_imm (vs := is.map .m) (is := is) (allM_imm is)
 exact gives_view (is := is) hp hs h (r5 19 H) (.inl ⟨r1, r2⟩)
theorem frm_ext {n : Int} {zs ys : List I} (h : zs.map dI = ys.map dI) : frm n zs = frm n ys := by
 have hl : zs.length = ys.length := by
  have := congrArg List.length h
  simpa using this
 have ha : ∀ l : List I, (l.all fun z => lits n (dI z)) = (l.map dI).all (lits n) := fun l => by
  rw [List.all_map]
  rfl
 unfold frm
 rw [ha, ha, h, hl]
theorem same_true {z y : I} {zs ys : List I} {n : Int} (hz : IsSl z (ones zs)) (hy : IsSl y (ones ys)) (hc : Cls zs) (hd : Cls ys) (hl : zs.length ≤ 9223372036854775807) (h : zs.map dI = ys.map dI) (H : Hp) : Gives G 17 [.m (.ag [.i .i64 n, z]), .m (.ag [.i .i64 n, y])] H (.m (.b true)) H := by
 have := same_r hz hy hc hd hl n n H
 rwa [decide_eq_true ⟨rfl, h⟩] at this
theorem srtC_bnd {zs ys : List I} (h : ys.map dI = srtC (zs.map dI)) (h60 : zs.length ≤ 60) (h30 : ∀ y, y ∈ zs → (dI y).length ≤ 30) : ys.length ≤ 60 ∧ ∀ y, y ∈ ys → (dI y).length ≤ 30 := by
 constructor
 ·have := congrArg List.length h
  rw [List.length_map] at this
  have := srtC_len (zs.map dI)
  rw [List.length_map] at this
  omega
 ·intro y hy
  have hm : dI y ∈ srtC (zs.map dI) := by rw [← h]; exact List.mem_map.2 ⟨y, hy, rfl⟩
  obtain ⟨⟨d, hd, he⟩, _⟩ := mem_srtC.1 hm
  obtain ⟨u, hu, rfl⟩ := List.mem_map.1 hd
  rw [← he]
  have := srtU_len litLt (dI u)
  have := h30 u hu
  unfold nrm
  omega
theorem slOne {y : I} {es : List (List I)} (h : IsSl y es) : oneV (.m y) = true := by
 rcases h with rfl | ⟨rfl, _⟩ <;> rfl

set_option maxHeartbeats 4000000 in
theorem law_sorts (hA : Gives G 10 [] [] (.m (.b true)) []) {z : I} {zs : List I} (hz : IsSl z (ones zs)) (hc : Cls zs) (hl : zs.length ≤ 9223372036854775807) (n : Int) :
  Gives G 4 [.m (.ag [.i .i64 n, z])] [] (.m (.b true)) [] := by
 have gA : ∀ H, Gives G 10 [] H (.m (.b true)) H := fun H => gives_imm (is := []) rfl rfl hA H
 have hr := hz.rules
 simp only [ones_len] at hr
 refine gives_pur rfl rfl rfl rfl rfl ?_
 have g0 := fun H => few_s hz hc hl n H
 by_cases hf : (decide (zs.length ≤ 60) && zs.all fun z => decide ((dI z).length ≤ 30)) = true
 ·rw [hf] at g0
  simp only [Bool.and_eq_true, decide_eq_true_eq, List.all_eq_true] at hf
  obtain ⟨v1, a1, b1⟩ := sort_s hz hc hf.1 hf.2 (n := n) []
  obtain ⟨v2, a2, b2⟩ := sort_r hz hc hf.1 hf.2 (n := n) []
  have a1 := gives_imm (is := [.ag [.i .i64 n, z]]) rfl rfl a1
  have a2 := gives_imm (is := [.ag [.i .i64 n, z]]) rfl rfl a2
  simp only [List.map_cons, List.map_nil] at a1 a2
  unfold SortQ at b1 b2
  cases hfr : frm n zs with
  | false =>
   rw [hfr] at b1 b2
   simp only [Bool.false_eq_true, if_false] at b1 b2
   subst b1
   subst b2
   have gs := fun H => same_true (n := 0) isSl_nil isSl_nil (zs := []) (ys := []) (fun z hz => by simp at hz) (fun z hz => by simp at hz) (by simp) rfl H
   simp (maxSteps := 2000000) (disch := omega) [gd_in, gd_and, wr_i64, gcall_cx, cl (g0 _), cl (a1 _), cl (a2 _), errV, cl (gs _), cl (gA _)]
  | true =>
   rw [hfr] at b1 b2
   simp only [if_true] at b1 b2
   obtain ⟨z1, zs1, rfl, p1, p2, p3⟩ := b1
   obtain ⟨z2, zs2, rfl, q1, q2, q3⟩ := b2
   obtain ⟨l1, l2⟩ := srtC_bnd p3 hf.1 hf.2
   have gs := fun H => same_true (n := n) p1 q1 p2 q2 (by omega) (p3.trans q3.symm) H
   have hfr1 : frm n zs1 = true := by
    rw [frm_ext (ys := zcl (srtC (zs.map dI))) (by rw [p3, dI_zcl])]
    exact frm_srtC hfr
   obtain ⟨v3, a3, b3⟩ := sort_s p1 p2 l1 l2 (n := n) []
   have a3 := gives_imm (is := [.ag [.i .i64 n, z1]]) rfl rfl a3
   simp only [List.map_cons, List.map_nil] at a3
   unfold SortQ at b3
   rw [hfr1] at b3
   simp only [if_true] at b3
   obtain ⟨z3, zs3, rfl, r1, r2, r3⟩ := b3
   rw [p3, srtC_idem] at r3
   have gs2 := fun H => same_true (n := n) r1 p1 r2 p2 (by have := congrArg List.length r3; rw [← p3] at this; simp at this; omega) (r3.trans p3.symm) H
   have hrl : zs.reverse.length = zs.length := List.length_reverse
   have hcv : Cls zs.reverse := fun y hy => hc y (List.mem_reverse.1 hy)
   obtain ⟨v4, a4, b4⟩ := sort_s (zL_sl zs.reverse) hcv (by rw [hrl]; exact hf.1) (fun y hy => hf.2 y (List.mem_reverse.1 hy)) (n := n) []
   unfold SortQ at b4
   have hfr4 : frm n zs.reverse = true := by
    unfold frm at hfr ⊢
    rw [List.length_reverse, List.all_reverse]
    exact hfr
   rw [hfr4] at b4
   simp only [if_true] at b4
   obtain ⟨z4, zs4, rfl, s1, s2, s3⟩ := b4
   rw [List.map_reverse, srtC_rev] at s3
   have gs4 := fun H => same_true (n := n) s1 p1 s2 p2 (by have := congrArg List.length s3; rw [← p3] at this; simp at this; omega) (s3.trans p3.symm) H
   simp (maxSteps := 2000000) (disch := omega) [gd_in, gd_and, wr_i64, gcall_cx, hr, slCells hz, cl (g0 _), cl (a1 _), cl (a2 _), cl (gs _), cl (a3 _), slCells p1, slCells q1, slCells r1, slOne p1, slOne q1, slOne r1]
   refine (?key : ∀ (i : Nat) (o : V) (B : List (Nat × List V)) (H : Hp), i ≤ zs.length → getB B 1 = some [.m (.i .i64 n), .m z] → getB B 3 = some [.m (.i .i64 n), .m z1] → getB B 7 = some [.m (.i .i64 n), .m z3] → getB B 9 = some [.m (.i .i64 n), o] → LR 35 (zs.reverse.take i) o H (0 ≤ ·) →
    Run G c4_B0 (S4_0 (.fa 1 0) (.fa 3 0) (.fa 7 0) (.m (.i .i64 0)) (.fa 9 0) (.m (.i .i64 (zs.length : Int))) (.m (.i .i64 (i : Int))) B H) _) 0 _ _ _ (Nat.zero_le _) rfl rfl rfl rfl LR.nil
   refine indM (fun i : Nat => zs.length - i) fun i ih o B H hi hB1 hB3 hB7 hB9 ho => ?_
   unfold c4_B0
   obtain ⟨o1, o2, o3, o4⟩ := ho.nf
   cases hx : zs.reverse[i]? with
   | none =>
    have : i = zs.length := by have := List.getElem?_eq_none_iff.1 hx; omega
    subst this
    rw [List.take_of_length_le (by omega)] at ho
    have v1 := ho.view 17
    rcases ho with ⟨e0, rfl⟩ | ⟨hne, r, hr9, rfl, h3⟩
    ·have a4 := gives_imm (is := [.ag [.i .i64 n, zL zs.reverse]]) rfl rfl a4
     rw [e0] at a4
     simp only [List.map_cons, List.map_nil, show zL [] = .nl 4 from rfl] at a4
     simp (maxSteps := 2000000) (disch := omega) [gd_in, gd_and, wr_i64, gcall_cx, hB1, hB3, hB7, hB9, cl (a4 _), cl (gs2 _), cl (gs4 _), cl (gA _), slCells s1, slOne s1]
    ·rw [hrl] at v1
     have hv4 : optMap (view 20 H) [.ag [.m (.i .i64 n), .sl r zs.length 1 0 zs.length false]] = some [.ag [.i .i64 n, zL zs.reverse]] := by simp (maxSteps := 2000000) (disch := omega) [gd_in, gd_and, wr_i64, v1]
     obtain ⟨H4, g4⟩ : ∃ H4, Gives G 15 [.ag [.m (.i .i64 n), .sl r zs.length 1 0 zs.length false]] H (.tu [.m (.ag [.i .i64 n, z4]), .m (.i .i64 0)]) H4 := by
      cases hfl : flatV (.tu [.m (.ag [.i .i64 n, z4]), .m (.i .i64 0)]) with
      | true => exact ⟨_, gives_view (is := [.ag [.i .i64 n, zL zs.reverse]]) rfl rfl a4 hv4 (.inr ⟨by simp [refs, ref1], hfl⟩)⟩
      | false => exact ⟨_, gives_view_fr (is := [.ag [.i .i64 n, zL zs.reverse]]) rfl rfl a4 hv4 (by simp [refs, ref1]) hfl rfl (freezeV h3)⟩
     simp (maxSteps := 2000000) (disch := omega) [gd_in, gd_and, wr_i64, gcall_cx, hB1, hB3, hB7, hB9, cl g4, cl (gs2 _), cl (gs4 _), cl (gA _), slCells s1, slOne s1]
   | some y =>
    have hlt := (List.getElem?_eq_some_iff.1 hx).1
    rw [hrl] at hlt
    have hlt' : (i : Int) < zs.length := by omega
    have hx2 : zs[zs.length - 1 - i]? = some y := by rw [← hx, List.getElem?_reverse hlt]
    have hn := ones_nth hx2
    have wi : wr .i64 ((i : Int) + 1) = ((i + 1 : Nat) : Int) := wr_i64 (by omega) (by omega)
    have w1 : wr .i64 ((zs.length : Int) - 1) = ((zs.length - 1 : Nat) : Int) := by rw [wr_i64 (by omega) (by omega)]; omega
    have w2 : wr .i64 (((zs.length - 1 : Nat) : Int) - (i : Int)) = ((zs.length - 1 - i : Nat) : Int) := by rw [wr_i64 (by omega) (by omega)]; omega
    have hk1 : zs.length - 1 - i < zs.length := by omega
    have hk2 : ((zs.length - 1 - i : Nat) : Int) < zs.length := by omega
    have hy := (hc y (List.mem_of_getElem? hx2)).1
    have hy1 := slOne hy
    have bq := fun H B => bsf_imm hy1 H B
    obtain ⟨o2', H2, c1, c2, c3, c4, c5, c6⟩ := ho.push (b := 24) (ys := [y]) (Nat.zero_le _) (by omega) (by simp; omega) (fun u hu => by rw [List.mem_singleton] at hu; subst hu; exact hy1)
    have c1' : ∀ B, loudX (fun _ _ _ => none) ⟨B, H⟩ (.app 35 1 24) [o, .ls [[y]]] = some (o2', ⟨B, H2⟩) := fun B => (loud_elems rfl).trans (c1 B)
    rw [← take_succ_get hx] at c3
    obtain ⟨d1, d2, d3, d4⟩ := c3.nf
    have kk := fun B => ih (i + 1) (by omega) o2' B H2 (by omega)
    generalize zs.length - 1 - i = t at *
    generalize zs.length - 1 = t1 at *
    simp (maxSteps := 2000000) (disch := omega) [gd_in, gd_and, wr_i64, gcall_cx, hr, hB1, hB3, hB7, hB9, hlt, hlt', hn, bq, -loud_app, c1', setC_v o1, setC_v c2, d2, d3, wi, w1, w2, hk1, hk2, -Int.natCast_add]
    refine kk _ ?_ ?_ ?_ ?_ c3 <;> simp [hB1, hB3, hB7]
 ·rw [Bool.not_eq_true] at hf
  rw [hf] at g0
  simp (maxSteps := 2000000) (disch := omega) [gd_in, gd_and, wr_i64, slCells hz, cl (g0 _), cl hA]
theorem formula_sorts (us : List V) (h : ArgsOk Go.Proofs.Tryz.prog maxLen 8 Go.Proofs.Tryz.f4.params.toList us) : Gives G 4 us [] (.m (.b true)) [] := by
 have e : Go.Proofs.Tryz.f4.params.toList = [24] := by rw [Go.Proofs.Tryz.params4]
 have h := e ▸ h
 have hm : maxLen ≤ 9223372036854775807 := by decide
 obtain ⟨n, z, zs, _, rfl, hz, hc, hl, h1⟩ := arg_frm hm h
 have := argsOk_nil h1
 subst this
 exact law_sorts gives_awake hz hc (by omega) n
end Go.Mx.Tryz
