/- CanonOneForm: the law. -/
import Derived.Test.YtchacpbmpgfblaaDoorSo
import Derived.Test.YtchacpbmpgfblaaDoorSf
import Derived.Test.YtchacpbmpgfblaaDoorAw
set_option linter.unusedSimpArgs false
set_option linter.unusedVariables false
set_option linter.unusedSectionVars false
set_option maxRecDepth 100000
namespace Go.Mx.Tryd
open Go.Sort Go.Lib Go.Proofs

theorem outP_v20 {f : List Ce} {o : V} {H : Hp} (h : OutP f o H) : view 20 H o = some (zP f) := by
 rcases h with ⟨rfl, rfl, rfl⟩ | ⟨hne, rfl, rfl⟩
 ·rfl
 ·have := viewP (r := 0) (b := 0) (X := []) (A := []) (q := f) (n := f.length) rfl (Nat.zero_le _) 18
  rw [this]
  unfold zP
  rw [if_neg hne]
set_option maxHeartbeats 2000000 in
theorem shift_r {v : I} {p : List Ce} (hv : IsSl v (cells3 p)) (hl : p.length ≤ 1000000) (dx dy : Int) (hd : -300 ≤ dx ∧ dx ≤ 300 ∧ -300 ≤ dy ∧ dy ≤ 300) (hp : right p = true) (H : Hp) :
  ∃ q e, (q = p.map (mvC (-dx) (-dy)) ∨ q = []) ∧ Gives G 16 [.m v, .m (.i .i64 dx), .m (.i .i64 dy)] H (.tu [.m (zP q), .m (.i .i64 e)]) H := by
 have hr := hv.rules
 simp only [show (cells3 p).length = p.length from by simp [cells3]] at hr
 have g1 := fun H => right_r hv (by omega) H
 rw [hp] at g1
 have key : ∃ x H', Gives G 16 [.m v, .m (.i .i64 dx), .m (.i .i64 dy)] H x H' ∧ (H' = H ∧ ∃ q e, (q = p.map (mvC (-dx) (-dy)) ∨ q = []) ∧ x = .tu [.m (zP q), .m (.i .i64 e)]) := by
  refine gives_of_ret ?_
  refine ret_pur rfl rfl rfl rfl rfl ?_
  obtain ⟨d1, d2, d3, d4⟩ := hd
  simp (maxSteps := 2000000) (disch := omega) [gd_in, gd_and, wr_i64, cl (g1 _), hr, show ¬ dx < -2097152 from by omega, show ¬ 2097152 < dx from by omega, show ¬ dy < -2097152 from by omega, show ¬ 2097152 < dy from by omega]
  refine (?key : ∀ (i : Nat) (f : List Ce) (o : V) (B : List (Nat × List V)) (H : Hp), i ≤ p.length → f = (p.take i).map (mvC (-dx) (-dy)) → OutP f o H → Run G c16_B0 (S16_0 (.m v) (.m (.i .i64 dx)) (.m (.i .i64 dy)) o (.m (.i .i64 (i : Int))) B H) _) 0 [] _ _ _ (Nat.zero_le _) rfl (.inl ⟨rfl, rfl, rfl⟩)
  refine indM (fun i : Nat => p.length - i) fun i ih f o B H1 hi hf ho => ?_
  unfold c16_B0
  have hfl : f.length = i := by rw [hf, List.length_map, List.length_take]; omega
  cases hx : p[i]? with
  | some c =>
   have hlt := (get_drop hx).1
   have hlt' : (i : Int) < p.length := by omega
   have hn := cells3_nth hx
   have wi : wr .i64 ((i : Int) + 1) = (i : Int) + 1 := wr_i64 (by omega) (by omega)
   have htk : p.take (i + 1) = p.take i ++ [c] := take_succ_get hx
   have hbd := right_bnd hp (List.mem_of_getElem? hx)
   have wx : wr .i64 (c.x + dx) = c.x + dx := wr_i64 (by omega) (by omega)
   have wy : wr .i64 (c.y + dy) = c.y + dy := wr_i64 (by omega) (by omega)
   have gp := fun H => placed_r (c.x + dx) (c.y + dy) H
   obtain ⟨o1, H2, ha, hn1, ho1⟩ := outP_push ho (by omega) (mvC (-dx) (-dy) c)
   have e1 : (mvC (-dx) (-dy) c).x = c.x + dx := by unfold mvC; dsimp only; omega
   have e2 : (mvC (-dx) (-dy) c).y = c.y + dy := by unfold mvC; dsimp only; omega
   have e3 : (mvC (-dx) (-dy) c).s = c.s := rfl
   simp only [e1, e2, e3] at ha
   have he : f ++ [mvC (-dx) (-dy) c] = (p.take (i + 1)).map (mvC (-dx) (-dy)) := by rw [htk, hf]; simp
   have hnf := (outP_view ho).2
   cases hpl : placed (c.x + dx) (c.y + dy) with
   | true =>
    rw [hpl] at gp
    simp (maxSteps := 2000000) (disch := omega) [gd_in, gd_and, wr_i64, hr, hlt, hlt', hn, wi, wx, wy, cl (gp _), ha, setC_v hn1, setC_v hnf]
    exact ih (i + 1) (by omega) _ _ _ _ (by omega) he ho1
   | false =>
    rw [hpl] at gp
    simp (maxSteps := 2000000) (disch := omega) [gd_in, gd_and, wr_i64, hr, hlt, hlt', hn, wi, wx, wy, cl (gp _), setC_v hnf]
    exact .inr rfl
  | none =>
   have : i = p.length := by have := List.getElem?_eq_none_iff.1 hx; omega
   subst this
   rw [List.take_length] at hf
   obtain ⟨hvw, hnf⟩ := outP_view ho
   have hv20 := outP_v20 ho
   simp (maxSteps := 2000000) (disch := omega) [gd_in, gd_and, wr_i64, hr, hv20, setC_v hnf]
   exact ⟨hnf, .inl (by rw [hf])⟩
 obtain ⟨x, H', h1, rfl, q, e, h2, rfl⟩ := key
 exact ⟨q, e, h2, h1⟩
theorem form_same {p q : List Ce} {l g : List Int} (hp : right p = true) (hlg : largeC p = false) (hg : Grp l g) {j : Nat} (hj : (j : Int) ∈ g) (hq : right q = true) {u v : Int} (hqe : q = (imgC j p).map (mvC u v)) : formE q = none ∧ formC q g = formC p g := by
 obtain ⟨T, hT, h0, rfl⟩ := grp_T hg
 obtain ⟨j', hj8, hTj, e⟩ := mem_intsT.1 hj
 have : j' = j := by omega
 subst this
 have hs := span_of hp hlg
 have hpw := (right_pw hp).1
 have hqs : Span q := by rw [hqe]; exact span_mv u v (span_img j' hs)
 have hqE : formE q = none := by unfold formE; rw [hq, large_of hq hqs]; rfl
 have hpE : formE p = none := by unfold formE; rw [hp, hlg]; rfl
 refine ⟨hqE, ?_⟩
 unfold formC
 rw [if_pos hqE, if_pos hpE]
 refine best_same hT h0 hpw (right_pw hq).1 hj8 hTj fun k hk => ?_
 rw [hqe]
 exact img_mv (pw_apart (img_pw j' hpw))
theorem mv_0 (p : List Ce) : p.map (mvC 0 0) = p := by
 have : ∀ c ∈ p, mvC 0 0 c = c := fun c _ => by unfold mvC; simp
 rw [List.map_congr_left this, List.map_id']
theorem codeE_0 {p : List Ce} (h : formE p = none) : codeE p = 0 := by unfold codeE; rw [h]; rfl
theorem codeE_n {p : List Ce} {e : Int} (h : formE p = some e) : ¬ codeE p = 0 := by
 unfold codeE
 rw [h]
 unfold formE at h
 show ¬ e = 0
 intro h0
 subst h0
 split at h
 ·split at h <;> cases h
 ·cases h
set_option maxHeartbeats 4000000 in
theorem law_one (gw : Gives G 8 [] [] (.m (.b true)) []) {v z : I} {p : List Ce} {l : List Int} (kn : Nat) (hkn : kn < 256) (hv : IsSl v (cells3 p)) (hl : (p.length : Int) ≤ 9223372036854775807) (hz : IsSl z (celI l)) (hk : ∀ k, k ∈ l → -9223372036854775808 ≤ k ∧ k ≤ 9223372036854775807) : Gives G 4 [.m v, .m z, .m (.i .u8 (kn : Int))] [] (.m (.b true)) [] := by
 have gf := fun H => few_l hv H
 have hrz := hz.rules
 have hrv := hv.rules
 simp only [celI_len] at hrz
 simp only [show (cells3 p).length = p.length from by simp [cells3]] at hrv
 refine gives_pur rfl rfl rfl rfl rfl ?_
 by_cases hfew : (p.length : Int) ≤ 300
 ·rw [decide_eq_true hfew] at gf
  by_cases h20x : (l.length : Int) ≤ 20
  ·have h20 : ¬ (20 : Int) < l.length := by omega
   have h20n : ¬ 20 < l.length := by omega
   obtain ⟨g, hg⟩ := grp_ex l (by omega)
   obtain ⟨w, hw, g1⟩ := form_S hv hl hz (by omega) hg
   cases he : formE p with
   | some e =>
    have hc := codeE_n he
    simp (maxSteps := 2000000) (disch := omega) [gd_in, gd_and, wr_i64, gcall_cx, cl (gf _), hrz, h20, h20n, cl (g1 _), hc, cl gw]
   | none =>
    obtain ⟨hr, hlg⟩ := formE_none he
    have hpE := codeE_0 he
    have hs := span_of hr hlg
    rw [hpE] at g1
    have g2 := fun H => grp_r hz (by omega) hk hg H
    have hrg := (zN_sl g).rules
    simp only [celI_len] at hrg
    obtain ⟨T, hT, h0, hgT⟩ := grp_T hg
    have hg0 : 0 < g.length := by
     have : (0 : Int) ∈ g := by rw [hgT]; exact mem_intsT.2 ⟨0, by omega, h0, rfl⟩
     exact List.length_pos_of_mem this
    have hgl := grp_len hg
    have hmod : kn % g.length < g.length := Nat.mod_lt _ hg0
    obtain ⟨kk, hkk⟩ : ∃ kk, g[kn % g.length]? = some kk := ⟨_, List.getElem?_eq_getElem hmod⟩
    have hk8 := grp_mem hg kk (List.mem_of_getElem? hkk)
    obtain ⟨jm, hjm⟩ : ∃ jm, jm = kn % g.length := ⟨_, rfl⟩
    rw [← hjm] at hmod hkk
    have erem : ((kn : Int)).tmod (g.length : Int) = (jm : Int) := by rw [hjm]; rfl
    have hmod2 : (jm : Int) < g.length := by omega
    obtain ⟨j, rfl⟩ := Int.eq_ofNat_of_zero_le hk8.1
    have hj8 : j < 8 := by omega
    have hjg : (j : Int) ∈ g := List.mem_of_getElem? hkk
    have g3 := fun H => img_r hv hr hs (j : Int) (by omega) H
    rw [modS_nat hj8] at g3
    have hir := img_right (k := j) hr hs
    obtain ⟨q, e2, hq, g40⟩ := shift_r (zP_sl (imgC j p)) (by rw [img_len]; omega) (5 - (kn : Int)) ((kn : Int) - 9) (by omega) hir []
    have g4 := fun H => gives_view (H := H) (vs := [.m (zP (imgC j p)), .m (.i .i64 (5 - (kn : Int))), .m (.i .i64 ((kn : Int) - 9))]) (is := [zP (imgC j p), .i .i64 (5 - (kn : Int)), .i .i64 ((kn : Int) - 9)]) rfl rfl g40 rfl (.inl ⟨rfl, rfl⟩)
    have hql : q.length ≤ p.length := by
     rcases hq with rfl | rfl
     ·rw [List.length_map, img_len]; exact Nat.le_refl _
     ·simp
    have g5 := fun H => right_r (zP_sl q) (by omega) H
    have hrq := (zP_sl q).rules
    simp only [show (cells3 q).length = q.length from by simp [cells3]] at hrq
    have wk : wr .i64 (kn : Int) = (kn : Int) := wr_i64 (by omega) (by omega)
    have wa : wr .i64 (5 - (kn : Int)) = 5 - (kn : Int) := wr_i64 (by omega) (by omega)
    have wb : wr .i64 ((kn : Int) - 9) = (kn : Int) - 9 := wr_i64 (by omega) (by omega)
    have hgn : ¬ (g.length : Int) = 0 := by omega
    have hgn2 : ¬ g = [] := fun h => by rw [h] at hg0; simp at hg0
    have hix2 : nth (celI g) jm = some [.i .i64 (j : Int)] := by rw [nth_get]; simp [celI, hkk]
    cases hqr : right q with
    | false =>
     rw [hqr] at g5
     simp (maxSteps := 2000000) (disch := omega) [gd_in, gd_and, wr_i64, gcall_cx, cl (gf _), hrz, h20, h20n, cl (g1 _), cl (g2 _), hrg, hgn, hgn2, wk, erem, hmod, hmod2, hix2, cl (g3 _), wa, wb, cl (g4 _), cl (g5 _), hrq, hrv, cl gw]
    | true =>
     rw [hqr] at g5
     by_cases hll : (q.length : Int) = p.length
     ·have hqe : q = (imgC j p).map (mvC (-(5 - (kn : Int))) (-((kn : Int) - 9))) := by
       rcases hq with h | h
       ·exact h
       ·have : p.length = 0 := by rw [h] at hll; simpa using hll.symm
        have h3 : (imgC j p).length = 0 := by rw [img_len]; exact this
        rw [h, List.eq_nil_of_length_eq_zero h3]
        rfl
      obtain ⟨hqE, hqC⟩ := form_same hr hlg hg hjg hqr hqe
      obtain ⟨w2, hw2, g6⟩ := form_S (zP_sl q) (by omega) hz (by omega) hg
      rw [codeE_0 hqE] at g6
      rw [hqC] at hw2
      obtain ⟨i, hi8, hTi, hmi⟩ := (best_T (T := T) h0 (right_pw hr).1).1
      have hfc : formC p g = imgC i p := by unfold formC; rw [if_pos he, hgT, hmi]
      have hmr : right (formC p g) = true := by rw [hfc]; exact img_right hr hs
      obtain ⟨hmE, hmC⟩ := form_same (q := formC p g) (u := 0) (v := 0) hr hlg hg (j := i) (by rw [hgT]; exact mem_intsT.2 ⟨i, hi8, hTi, rfl⟩) hmr (by rw [hfc, mv_0])
      have hfl := formC_len p g
      obtain ⟨w3, hw3, g7⟩ := form_S hw (by omega) hz (by omega) hg
      rw [codeE_0 hmE] at g7
      rw [hmC] at hw3
      have hd : decide (cmpL (formC p g) (formC p g) = 0) = true := decide_eq_true (cmpL_0.2 rfl)
      have g8 := fun H => refSame_r hw hw2 (by omega) (by omega) H
      have g9 := fun H => refSame_r hw hw3 (by omega) (by omega) H
      rw [hd] at g8 g9
      have c1 := isSl_cel hw
      have c2 := isSl_cel hw2
      have c3 := isSl_cel hw3
      simp (maxSteps := 2000000) (disch := omega) [gd_in, gd_and, wr_i64, gcall_cx, cl (gf _), hrz, h20, h20n, cl (g1 _), cl (g2 _), hrg, hgn, hgn2, wk, erem, hmod, hmod2, hix2, cl (g3 _), wa, wb, cl (g4 _), cl (g5 _), hrq, hrv, hll, cl (g6 _), cl (g7 _), cl (g8 _), cl (g9 _), cl gw]
     ·simp (maxSteps := 2000000) (disch := omega) [gd_in, gd_and, wr_i64, gcall_cx, cl (gf _), hrz, h20, h20n, cl (g1 _), cl (g2 _), hrg, hgn, hgn2, wk, erem, hmod, hmod2, hix2, cl (g3 _), wa, wb, cl (g4 _), cl (g5 _), hrq, hrv, hll, cl gw]
  ·have h20 : (20 : Int) < l.length := by omega
   have h20n : 20 < l.length := by omega
   simp (maxSteps := 2000000) (disch := omega) [gd_in, gd_and, wr_i64, gcall_cx, cl (gf _), hrz, h20, h20n, cl gw]
 ·rw [decide_eq_false hfew] at gf
  simp (maxSteps := 2000000) (disch := omega) [gd_in, gd_and, wr_i64, gcall_cx, cl (gf _), cl gw]
theorem aggU8 : aggT Go.Proofs.Tryd.prog 5 = some false := by unfold aggT; rw [Go.Proofs.Tryd.underlying5]; rfl
theorem arg_u8 {B n : Nat} {ts : List TypeId} {us : List V} (h : ArgsOk Go.Proofs.Tryd.prog B (n + 1) (5 :: ts) us) : ∃ (k : Nat) (r : List V), k < 256 ∧ us = .m (.i .u8 (k : Int)) :: r ∧ ArgsOk Go.Proofs.Tryd.prog B (n + 1) ts r := by
 obtain ⟨l, r, rfl, hl, h'⟩ := argsOk_cons h
 unfold Fits at hl
 rw [Go.Proofs.Tryd.underlying5] at hl
 simp only at hl
 obtain ⟨x, rfl, hx⟩ := hl
 have e1 : IntKind.u8.min = 0 := by decide
 have e2 : IntKind.u8.max = 255 := by decide
 rw [e1, e2] at hx
 obtain ⟨k, rfl⟩ := Int.eq_ofNat_of_zero_le hx.1
 rw [argV_one aggU8]
 exact ⟨k, r, by omega, rfl, h'⟩
theorem canon_one (us : List V) (h : ArgsOk Go.Proofs.Tryd.prog maxLen 8 Go.Proofs.Tryd.f4.params.toList us) : Gives G 4 us [] (.m (.b true)) [] := by
 have e : Go.Proofs.Tryd.f4.params.toList = [23, 33, 5] := by rw [Go.Proofs.Tryd.params4]
 have h := e ▸ h
 have hm : maxLen ≤ 9223372036854775807 := by decide
 obtain ⟨p, v, _, hv, hl, rfl, h1⟩ := arg_pat h
 obtain ⟨l, z, _, hz, hzl, hk, rfl, h2⟩ := arg_ints h1
 obtain ⟨kn, _, hkn, rfl, h3⟩ := arg_u8 h2
 have := argsOk_nil h3
 subst this
 exact law_one gives_awake kn hkn hv (by omega) hz hk
end Go.Mx.Tryd
