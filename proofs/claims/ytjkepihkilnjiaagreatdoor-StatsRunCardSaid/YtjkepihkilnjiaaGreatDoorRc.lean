/- Fields of the reference: the state of a cell, the new state of a cell. -/
import Derived.Test.YtjkepihkilnjiaaGreatDoorRb
set_option linter.unusedSimpArgs false
set_option linter.unusedVariables false
set_option linter.unusedSectionVars false
set_option maxRecDepth 100000
namespace Go.Mx.Tryz
open Go.Lib Go.Proofs

set_option maxHeartbeats 2000000 in
theorem at_r {p : List Ce} {v f : I} (hv : IsSl v (cells3 p)) (hl : p.length ≤ 5000) (hF : FldV p v f) (x y : Int) (hx : -10000000 ≤ x ∧ x ≤ 10000000) (hy : -10000000 ≤ y ∧ y ≤ 10000000) (H : Hp) : Gives G 68 [.m f, .m (.i .i64 x), .m (.i .i64 y)] H (.m (.i .i64 (getF p x y))) H := by
 obtain ⟨bx, by_, w, h, fl, cs, rfl, hwh, hbx, hby, hin, hne, hfl, _⟩ := hF.ex
 have gg := fun H => get_r hv (by omega) x y H
 unfold fldI
 refine gives_pur rfl rfl rfl rfl rfl ?_
 cases fl with
 | false => simp (maxSteps := 2000000) (disch := omega) [gd_in, gd_and, wr_i64, cl (gg _)]
 | true =>
  obtain ⟨hP, hcs⟩ := hfl rfl
  have hrc := hcs.rules
  simp only [celI_len, gridF_len] at hrc
  have wx : wr .i64 (bx + (w : Int)) = bx + w := wr_i64 (by omega) (by omega)
  have wy : wr .i64 (by_ + (h : Int)) = by_ + h := wr_i64 (by omega) (by omega)
  by_cases x1 : x < bx
  ·have e : getF p x y = 0 := getF_no fun c hc => by have := hin c hc; omega
   simp (maxSteps := 2000000) (disch := omega) [gd_in, gd_and, wr_i64, x1, e]
  by_cases x2 : bx + (w : Int) ≤ x
  ·have e : getF p x y = 0 := getF_no fun c hc => by have := hin c hc; omega
   simp (maxSteps := 2000000) (disch := omega) [gd_in, gd_and, wr_i64, x1, wx, x2, e]
  by_cases y1 : y < by_
  ·have e : getF p x y = 0 := getF_no fun c hc => by have := hin c hc; omega
   simp (maxSteps := 2000000) (disch := omega) [gd_in, gd_and, wr_i64, x1, wx, x2, y1, e]
  by_cases y2 : by_ + (h : Int) ≤ y
  ·have e : getF p x y = 0 := getF_no fun c hc => by have := hin c hc; omega
   simp (maxSteps := 2000000) (disch := omega) [gd_in, gd_and, wr_i64, x1, wx, x2, y1, wy, y2, e]
  obtain ⟨a, ha⟩ := Int.eq_ofNat_of_zero_le (show 0 ≤ x - bx by omega)
  obtain ⟨b, hb⟩ := Int.eq_ofNat_of_zero_le (show 0 ≤ y - by_ by omega)
  have haw : a < w := by omega
  have hbh : b < h := by omega
  have hk : b * w + a < w * h := by
   have h1 : (b + 1) * w ≤ h * w := Nat.mul_le_mul_right _ hbh
   rw [Nat.add_mul, Nat.one_mul, Nat.mul_comm h w] at h1
   omega
  have hg := grid_get p bx by_ (w := w) (n := w * h) (a := a) (b := b) haw hk
  rw [show bx + (a : Int) = x from by omega, show by_ + (b : Int) = y from by omega] at hg
  obtain ⟨M, hM⟩ : ∃ M, M = b * w := ⟨_, rfl⟩
  have hMi : (b : Int) * (w : Int) = (M : Int) := by rw [hM]; simp
  obtain ⟨P, hPe⟩ : ∃ P, P = w * h := ⟨_, rfl⟩
  rw [← hM] at hk hg
  rw [← hPe] at hk hg hP hrc
  obtain ⟨k0, hk0⟩ : ∃ k0, k0 = M + a := ⟨_, rfl⟩
  rw [← hk0] at hg hk
  have hn : nth (celI (gridF p bx by_ w P)) k0 = some [.i .i64 (getF p x y)] := celI_nth hg
  have w55 : wr .i64 (y - by_) = (b : Int) := by rw [hb]; exact wr_i64 (by omega) (by omega)
  have w59 : wr .i64 ((b : Int) * (w : Int)) = (M : Int) := by rw [hMi]; exact wr_i64 (by omega) (by omega)
  have w61 : wr .i64 ((M : Int) + x) = (M : Int) + x := wr_i64 (by omega) (by omega)
  have w65 : wr .i64 ((M : Int) + x - bx) = (k0 : Int) := by rw [wr_i64 (by omega) (by omega)]; omega
  have hk2 : (k0 : Int) < P := by omega
  generalize getF p x y = g at *
  simp (maxSteps := 2000000) (disch := omega) [gd_in, gd_and, wr_i64, x1, wx, x2, y1, wy, y2, w55, w59, w61, w65, hrc, hk, hk2, hn]
def NumA (acc : List Int) (o : V) (H : Hp) : Prop := (acc = [] ∧ o = .m (.nl 4) ∧ H = []) ∨ (acc ≠ [] ∧ o = .sl 0 acc.length 1 0 acc.length false ∧ H = [.cs 3 1 (rowsI acc) 0 false])
theorem numA_push {acc : List Int} {o : V} {H : Hp} (h : NumA acc o H) (hl : acc.length ≤ 1000000) (x : Int) : ∃ o1 H1, (∀ B, appX ⟨B, H⟩ 3 1 8 o [[.m (.i .i64 x)]] = some (o1, ⟨B, H1⟩)) ∧ noFaV o1 = true ∧ NumA (acc ++ [x]) o1 H1 := by
 rcases h with ⟨rfl, rfl, rfl⟩ | ⟨hne, rfl, rfl⟩
 ·exact ⟨_, _, fun B => rfl, rfl, .inr ⟨by simp, rfl, rfl⟩⟩
 ·have ha := fun B => app_row (M := ⟨B, [.cs 3 1 (rowsI acc) 0 false]⟩) (r := 0) (bytes := 8) (xs := [[.m (.i .i64 x)]]) rfl (by simp) (by simp [rowsI_len]; omega) (by simp [rowsI])
  simp only [rowsI_len, List.length_cons, List.length_nil, Nat.zero_add, rowsI_snoc, List.set_cons_zero] at ha
  exact ⟨_, _, ha, rfl, .inr ⟨by simp, by simp, rfl⟩⟩
theorem numA_nf {acc : List Int} {o : V} {H : Hp} (h : NumA acc o H) : noFaV o = true := by
 rcases h with ⟨_, rfl, _⟩ | ⟨_, rfl, _⟩ <;> rfl
theorem numA_call {F : Nat} {acc : List Int} {o x : V} {t0 : I} {H : Hp} (hp : G.prim F = none) (hs : G.sh F = false) (ho : NumA acc o H) (h : ∀ w H, IsSl w (celI acc) → Gives G F [.m t0, .m w] H x H) (hf : flatV x = true) : Gives G F [.m t0, o] H x H := by
 rcases ho with ⟨rfl, rfl, rfl⟩ | ⟨hne, rfl, rfl⟩
 ·exact h _ [] isSl_nil
 ·refine gives_view (is := [t0, .sl (celI acc)]) hp hs (h _ [] (isSl_sl _)) ?_ (.inr ⟨by simp [refs, ref1], hf⟩)
  have := viewN (r := 0) (ver := acc.length) (st := 0) (len := acc.length) (lim := false) (base := 0) (fz := false) (l := acc) (H := [Row.cs 3 1 (rowsI acc) 0 false]) rfl (Nat.zero_le _) 18
  rw [List.drop_zero, List.take_of_length_le (Nat.le_refl _)] at this
  show Option.bind (some _) (fun _ => Option.bind (Option.bind (view 20 _ _) _) _) = _
  rw [this]
  rfl
set_option maxHeartbeats 2000000 in
theorem next_q {t : TreeC} {h n v f : I} {es : List (List I)} (hT : TreeV t h n es) (hR : TreeR t) {p : List Ce} (hv : IsSl v (cells3 p)) (hl : p.length ≤ 5000) (hF : FldV p v f) (hp : topOk t p) (x y : Int) (hx : -9000000 ≤ x ∧ x ≤ 9000000) (hy : -9000000 ≤ y ∧ y ≤ 9000000) (H : Hp) : Gives G 54 [.m (.ag [.i .i64 t.states, h, n]), .m f, .m (.i .i64 x), .m (.i .i64 y)] H (.m (.i .i64 (nextF t p x y))) H := by
 have hrh := hT.hd.rules
 simp only [cells2_len] at hrh
 have hh := hoodOk_len hR.hood
 have ga := fun x y hx hy H => at_r hv hl hF x y hx hy H
 have hF2 := hF
 obtain ⟨bx, by_, w, k, fl, cs, rfl, _⟩ := hF2.ex
 have gv := fun w H hw => value_r hT hR (w := w) (ins := nbrs t p x y) hw (by rw [nbrs_len]; exact Nat.le_refl _) (nbrs_rng hR hp) H
 clear hF hF2
 unfold fldI at ga ⊢
 refine gives_pur rfl rfl rfl rfl rfl ?_
 simp (maxSteps := 2000000) (disch := omega) [gd_in, gd_and, wr_i64, ]
 refine (?key : ∀ (i : Nat) (o : V) (B : List (Nat × List V)) (H1 : Hp), i ≤ t.hood.length → getB B 4 = some [.m (.i .i64 t.states), .m h, .m n] → getB B 5 = some [.m (.b fl), .m (.i .i64 bx), .m (.i .i64 by_), .m (.i .i64 w), .m (.i .i64 k), .m cs, .m v] → NumA ((nbrs t p x y).take i) o H1 → Run G c54_B0 (S54_0 (.m (.i .i64 x)) (.m (.i .i64 y)) (.fa 4 0) (.fa 5 0) o (.m (.i .i64 (i : Int))) B H1) _) 0 _ _ _ (Nat.zero_le _) rfl rfl (.inl ⟨rfl, rfl, rfl⟩)
 refine indM (fun i : Nat => t.hood.length - i) fun i ih o B H1 hi hB4 hB5 ho => ?_
 unfold c54_B0
 have hnf := numA_nf ho
 cases hy2 : t.hood[i]? with
 | none =>
  have : i = t.hood.length := by have := List.getElem?_eq_none_iff.1 hy2; omega
  subst this
  rw [List.take_of_length_le (by rw [nbrs_len]; exact Nat.le_refl _)] at ho
  have gc := numA_call (F := 69) (t0 := .ag [.i .i64 t.states, h, n]) rfl rfl ho gv rfl
  have e : valT t (nbrs t p x y) = nextF t p x y := rfl
  rw [e] at gc
  simp (maxSteps := 2000000) (disch := omega) [gd_in, gd_and, wr_i64, hrh, hB4, hB5, cl gc]
 | some o2 =>
  have hlt := (get_drop hy2).1
  have hlt' : (i : Int) < t.hood.length := by omega
  have hox := cells2_nth hy2
  have hob := hoodOk_mem hR.hood o2 (List.mem_of_getElem? hy2)
  have wi : wr .i64 ((i : Int) + 1) = ((i + 1 : Nat) : Int) := wr_i64 (by omega) (by omega)
  have wx : wr .i64 (x + o2.1) = x + o2.1 := wr_i64 (by omega) (by omega)
  have wy : wr .i64 (y + o2.2) = y + o2.2 := wr_i64 (by omega) (by omega)
  have g1 := fun H => ga (x + o2.1) (y + o2.2) (by omega) (by omega) H
  have hs : (nbrs t p x y)[i]? = some (getF p (x + o2.1) (y + o2.2)) := by unfold nbrs; rw [List.getElem?_map, hy2]; rfl
  obtain ⟨o1, H2, hap, hn1, ho1⟩ := numA_push ho (by rw [List.length_take]; omega) (getF p (x + o2.1) (y + o2.2))
  rw [← take_succ_get hs] at ho1
  have kk := ih (i + 1) (by omega) o1 B H2 (by omega) hB4 hB5 ho1
  generalize getF p (x + o2.1) (y + o2.2) = g at *
  simp (maxSteps := 2000000) (disch := omega) [gd_in, gd_and, wr_i64, hrh, hlt, hlt', hox, hB4, hB5, wx, wy, cl (g1 _), hap, wi, setC_v hnf, setC_v hn1, -Int.natCast_add]
  exact kk
end Go.Mx.Tryz
