/- Steps at the machine. -/
import Derived.Test.YtjkepihkilnjiaaGreatDoorTc
import Derived.Test.YtjkepihkilnjiaaGreatDoorTd
set_option linter.unusedSimpArgs false
set_option linter.unusedVariables false
set_option linter.unusedSectionVars false
set_option maxRecDepth 100000
namespace Go.Mx.Tryz
open Go.Lib Go.Proofs

def topM (p : List Ce) : Int := p.foldl (fun m c => max m c.s) 0
theorem topM_snoc (p : List Ce) (c : Ce) : topM (p ++ [c]) = max (topM p) c.s := by simp [topM]
theorem topM_lt {k : Int} (hk : 0 < k) : ∀ n (p : List Ce), p.length = n → (topM p < k ↔ ∀ c, c ∈ p → c.s < k)
 | 0, p, h => by
  rw [List.eq_nil_of_length_eq_zero h]
  simp [topM, hk]
 | n + 1, p, h => by
  obtain ⟨q, c, rfl⟩ : ∃ q c, p = q ++ [c] := ⟨p.dropLast, p.getLast (by intro e; rw [e] at h; simp at h), (List.dropLast_concat_getLast _).symm⟩
  have ih := topM_lt hk n q (by simpa using h)
  rw [topM_snoc]
  constructor
  ·intro h1 d hd
   rcases List.mem_append.1 hd with hd | hd
   ·exact ih.1 (by omega) d hd
   ·rw [List.mem_singleton.1 hd]; omega
  ·intro h1
   have := ih.2 fun d hd => h1 d (by simp [hd])
   have := h1 c (by simp)
   omega
theorem top_s {v : I} {p : List Ce} (hv : IsSl v (cells3 p)) (hl : (p.length : Int) ≤ 9223372036854775806) (H : Hp) : Gives G 26 [.m v] H (.m (.i .i64 (topM p))) H := by
 have hr := hv.rules
 simp only [show (cells3 p).length = p.length from by simp [cells3]] at hr
 refine gives_pur rfl rfl rfl rfl rfl ?_
 simp (maxSteps := 2000000) (disch := omega) [gd_in, gd_and, wr_i64, hr]
 refine (?key : ∀ (i : Nat) (m : Int) (B : List (Nat × List V)), i ≤ p.length → m = topM (p.take i) → Run G c26_B0 (S26_0 (.m v) (.m (.i .i64 m)) (.m (.i .i64 p.length)) (.m (.i .i64 (i : Int))) B []) _) 0 0 _ (Nat.zero_le _) rfl
 refine indM (fun i : Nat => p.length - i) fun i ih m B hi hm => ?_
 unfold c26_B0
 cases hx : p[i]? with
 | none =>
  have : i = p.length := by have := List.getElem?_eq_none_iff.1 hx; omega
  subst this
  rw [List.take_length] at hm
  simp (maxSteps := 2000000) (disch := omega) [gd_in, gd_and, wr_i64, hr, hm]
 | some c =>
  have hlt := (get_drop hx).1
  have hlt' : (i : Int) < p.length := by omega
  have hn := cells3_nth hx
  have wi : wr .i64 ((i : Int) + 1) = ((i + 1 : Nat) : Int) := wr_i64 (by omega) (by omega)
  have k := ih (i + 1) (by omega) (max m c.s) B (by omega) (by rw [take_succ_get hx, topM_snoc, ← hm])
  simp (maxSteps := 2000000) (disch := omega) [gd_in, gd_and, wr_i64, hr, hlt, hlt', hn, wi, -Int.natCast_add]
  exact k
def chkE (t : TreeC) (p : List Ce) : Int := if quietT t = true then if right p = true then if topM p < t.states then 0 else 10 else 2 else 11
theorem check_s {t : TreeC} {h n v : I} {es : List (List I)} {p : List Ce} (hT : TreeV t h n es) (hv : IsSl v (cells3 p)) (hl : (p.length : Int) ≤ 9223372036854775806) (H : Hp) : Gives G 32 [.m (.ag [.i .i64 t.states, h, n]), .m v] H (.m (.i .i64 (chkE t p))) H := by
 have g1 := fun H => quiet_s hT H
 have g2 := fun H => right_s hv (by omega) H
 have g3 := fun H => top_s hv hl H
 refine gives_pur rfl rfl rfl rfl rfl ?_
 unfold chkE
 cases hq : quietT t with
 | false =>
  rw [hq] at g1
  simp (maxSteps := 2000000) (disch := omega) [gd_in, gd_and, wr_i64, cl (g1 _)]
 | true =>
  rw [hq] at g1
  cases hr : right p with
  | false =>
   rw [hr] at g2
   simp (maxSteps := 2000000) (disch := omega) [gd_in, gd_and, wr_i64, cl (g1 _), cl (g2 _)]
  | true =>
   rw [hr] at g2
   by_cases ht : topM p < t.states
   ·have ht2 : ¬ t.states ≤ topM p := by omega
    simp (maxSteps := 2000000) (disch := omega) [gd_in, gd_and, wr_i64, cl (g1 _), cl (g2 _), cl (g3 _), ht, ht2]
   ·have ht2 : t.states ≤ topM p := by omega
    simp (maxSteps := 2000000) (disch := omega) [gd_in, gd_and, wr_i64, cl (g1 _), cl (g2 _), cl (g3 _), ht, ht2]
theorem chkE_ok {t : TreeC} {p : List Ce} (h : chkE t p = 0) : quietT t = true ∧ right p = true ∧ topOk t p := by
 unfold chkE at h
 split at h
 ·rename_i hq
  split at h
  ·rename_i hr
   split at h
   ·rename_i ht
    have := (topM_lt (by have := (quiet_r hq).s2; omega) _ p rfl).1 ht
    refine ⟨hq, hr, fun c hc => ⟨?_, this c hc⟩⟩
    have := (right_pwB hr).2.1 c hc
    unfold good at this
    simp only [Bool.and_eq_true, decide_eq_true_eq] at this
    omega
   ·cases h
  ·cases h
 ·cases h
theorem place_m (x y : Int) (H : Hp) : Gives G 49 [.m (.ag [.i .i64 x, .i .i64 y])] H (.m (.b (placed x y))) H := by
 refine gives_pur rfl rfl rfl rfl rfl ?_
 have e : placed x y = (decide (max x y ≤ 1048576) && decide (-1048576 ≤ min x y)) := by
  unfold placed
  rw [Bool.eq_iff_iff]
  simp only [Bool.and_eq_true, decide_eq_true_eq]
  omega
 rw [e]
 by_cases h1 : max x y ≤ 1048576
 ·simp (maxSteps := 2000000) (disch := omega) [gd_in, gd_and, wr_i64, h1]
 ·simp (maxSteps := 2000000) (disch := omega) [gd_in, gd_and, wr_i64, h1]
def fzm (m : List ((Int × Int) × Int)) : I := .mp (m.map fun e => [ekP e.1, .i .i64 e.2])
theorem view_mp {H : Hp} {r : Nat} {m : List ((Int × Int) × Int)} (h : nth H r = some (mPI m)) (k : Nat) : view (k + 2) H (.mp r) = some (fzm m) := by
 show Option.bind (nth H r) _ = _
 rw [h]
 show Option.bind (optMap (fun (p : I × V) => (view (k + 1) H p.2).bind fun x => some [p.1, x]) (m.map fun p => (ekP p.1, evI p.2))) _ = _
 have e : optMap (fun (p : I × V) => (view (k + 1) H p.2).bind fun x => some [p.1, x]) (m.map fun p => (ekP p.1, evI p.2)) = some (m.map fun e => [ekP e.1, .i .i64 e.2]) := by
  clear h
  induction m with
  | nil => rfl
  | cons a r ih =>
   show Option.bind (some [ekP a.1, I.i .i64 a.2]) _ = _
   simp only [Option.bind_some, List.map_cons]
   show Option.bind (optMap _ (r.map fun p => (ekP p.1, evI p.2))) _ = _
   rw [ih]
   rfl
 rw [e]
 rfl
theorem pairs_fz : ∀ m : List ((Int × Int) × Int), pairs (m.map fun e => [ekP e.1, I.i .i64 e.2]) = some (m.map fun p => (ekP p.1, evI p.2))
 | [] => rfl
 | a :: r => by
  show Option.bind (pairs (r.map fun e => [ekP e.1, I.i .i64 e.2])) _ = _
  rw [pairs_fz r]
  rfl
theorem fz_get (M : Mem) (m : List ((Int × Int) × Int)) (x y : Int) : readX M (.lkp ⟨true, [1, 1]⟩ [.m (.i .i64 0)] false false) [.m (fzm m), .m (.ag [.i .i64 x, .i .i64 y])] = some (.m (.i .i64 ((mfind m (x, y)).getD 0))) := by
 have h1 := mPI_get m x y false
 have h2 : readX M (.lkp ⟨true, [1, 1]⟩ [.m (.i .i64 0)] false false) [.m (fzm m), .m (.ag [.i .i64 x, .i .i64 y])] = (pairs (m.map fun e => [ekP e.1, I.i .i64 e.2])).bind fun es => lkpRow ⟨true, [1, 1]⟩ [.m (.i .i64 0)] false false (.mp es false) (.ag [.i .i64 x, .i .i64 y]) := rfl
 rw [h2, pairs_fz]
 exact h1
theorem of_m {v : I} {p : List Ce} (hv : IsSl v (cells3 p)) (hr : right p = true) (H : Hp) : Gives G 47 [.m v] H (.m (fzm (posM p))) H := by
 obtain ⟨pw, hg, hl⟩ := right_pwB hr
 have hrv := hv.rules
 simp only [show (cells3 p).length = p.length from by simp [cells3]] at hrv
 refine gives_pur rfl rfl rfl rfl rfl ?_
 simp (maxSteps := 2000000) (disch := omega) [gd_in, gd_and, wr_i64, hrv]
 refine (?key : ∀ (i : Nat) (B : List (Nat × List V)), i ≤ p.length → Run G c47_B0 (S47_0 (.mp 0) (.m v) (.m (.i .i64 p.length)) (.m (.i .i64 (i : Int))) B [mPI (posM (p.take i))]) _) 0 _ (Nat.zero_le _)
 refine indM (fun i : Nat => p.length - i) fun i ih B hi => ?_
 unfold c47_B0
 cases hx : p[i]? with
 | none =>
  have : i = p.length := by have := List.getElem?_eq_none_iff.1 hx; omega
  subst this
  rw [List.take_length]
  have hvw : viewR [mPI (posM p)] (.mp 0) = some (.m (fzm (posM p))) := by
   show (view 20 _ _).bind _ = _
   rw [view_mp (H := [mPI (posM p)]) (r := 0) (m := posM p) rfl 18]
   rfl
  simp (maxSteps := 2000000) (disch := omega) [gd_in, gd_and, wr_i64, hvw]
 | some c =>
  have hlt := (get_drop hx).1
  have hlt' : (i : Int) < p.length := by omega
  have hn := cells3_nth hx
  have wi : wr .i64 ((i : Int) + 1) = ((i + 1 : Nat) : Int) := wr_i64 (by omega) (by omega)
  have pw' := pw
  rw [← List.take_append_drop i p, (get_drop hx).2] at pw'
  have hm := mset_posM pw'
  rw [← take_succ_get hx] at hm
  have k := ih (i + 1) (by omega)
  simp (maxSteps := 2000000) (disch := omega) [gd_in, gd_and, wr_i64, hrv, hlt, hlt', hn, wi, hm, -Int.natCast_add]
  exact k _ (by omega)
set_option maxHeartbeats 2000000 in
theorem next_m {t : TreeC} {h n : I} {es : List (List I)} (hT : TreeV t h n es) (hR : TreeR t) {p : List Ce} (hp : topOk t p) (x y : Int) (hx : -10000000 ≤ x ∧ x ≤ 10000000) (hy : -10000000 ≤ y ∧ y ≤ 10000000) (H : Hp) : Gives G 48 [.m (fzm (posM p)), .m (.ag [.i .i64 t.states, h, n]), .m (.ag [.i .i64 x, .i .i64 y])] H (.m (.i .i64 (nextF t p x y))) H := by
 have hrn := hT.nd.rules
 have hln := treeV_len hT
 have hl2 := hT.nl
 have hrh := hT.hd.rules
 simp only [cells2_len] at hrh
 have hh := hoodOk_len hR.hood
 have n1 := hR.n1
 have n2 := hR.n2
 have w1 : wr .i64 ((es.length : Int) - 1) = (t.nodes.length : Int) - 1 := by rw [wr_i64 (by omega) (by omega)]; omega
 refine gives_pur rfl rfl rfl rfl rfl ?_
 simp (maxSteps := 2000000) (disch := omega) [gd_in, gd_and, wr_i64, hrn, hrh, w1]
 refine (?key : ∀ (i : Nat) (k : Int) (B : List (Nat × List V)), i ≤ t.hood.length → getB B 4 = some [.m (.i .i64 t.states), .m h, .m n] → getB B 5 = some [.m (.i .i64 x), .m (.i .i64 y)] → k = valT t ((nbrs t p x y).take i) → Run G c48_B0 (S48_0 (.m (fzm (posM p))) (.fa 4 0) (.fa 5 0) (.m (.i .i64 k)) (.m h) (.m (.i .i64 t.hood.length)) (.m (.i .i64 (i : Int))) B []) _) 0 _ _ (Nat.zero_le _) rfl rfl rfl
 refine indM (fun i : Nat => t.hood.length - i) fun i ih k B hi hB h5 hk => ?_
 unfold c48_B0
 cases ho : t.hood[i]? with
 | none =>
  have : i = t.hood.length := by have := List.getElem?_eq_none_iff.1 ho; omega
  subst this
  rw [List.take_of_length_le (by rw [nbrs_len]; exact Nat.le_refl _)] at hk
  have hk : k = nextF t p x y := hk
  simp (maxSteps := 2000000) (disch := omega) [gd_in, gd_and, wr_i64, hrh, hk]
 | some o =>
  have hlt := (get_drop ho).1
  have hlt2 : (i : Int) < t.hood.length := by omega
  have hox := cells2_nth ho
  have hob := hoodOk_mem hR.hood o (List.mem_of_getElem? ho)
  have hs : (nbrs t p x y)[i]? = some (getF p (x + o.1) (y + o.2)) := by unfold nbrs; rw [List.getElem?_map, ho]; rfl
  have hsv := getF_rng hR hp (x + o.1) (y + o.2)
  have htl : ((nbrs t p x y).take i).length = i := by rw [List.length_take, nbrs_len]; omega
  obtain ⟨j, nd, hkj, hnd, hlev, hlen⟩ := val_at hR i ((nbrs t p x y).take i) htl (by omega) fun z hz => nbrs_rng hR hp z (List.mem_of_mem_take hz)
  rw [← hk] at hkj
  obtain ⟨z, hz, hzs, hzl, _⟩ := treeV_at hT hnd
  have hrz := hzs.rules
  simp only [celI_len] at hrz
  have hjl := (get_drop hnd).1
  have hjl1 : j < es.length := by omega
  have hjl2 : (j : Int) < es.length := by omega
  have hmf := mfind_posM p (x + o.1) (y + o.2)
  have hfz := fun M => fz_get M (posM p) (x + o.1) (y + o.2)
  rw [hmf] at hfz
  obtain ⟨sn, hsn0⟩ := Int.eq_ofNat_of_zero_le hsv.1
  rw [hsn0] at hs hsv hfz
  have hsn : sn < nd.2.length := by omega
  have hsn2 : (sn : Int) < nd.2.length := by omega
  obtain ⟨k2, hk2⟩ : ∃ k2, nd.2[sn]? = some k2 := ⟨_, List.getElem?_eq_getElem hsn⟩
  have hk3 : nth (celI nd.2) sn = some [.i .i64 k2] := celI_nth hk2
  have wi : wr .i64 ((i : Int) + 1) = ((i + 1 : Nat) : Int) := wr_i64 (by omega) (by omega)
  have wx : wr .i64 (x + o.1) = x + o.1 := wr_i64 (by omega) (by omega)
  have wy : wr .i64 (y + o.2) = y + o.2 := wr_i64 (by omega) (by omega)
  have e1 : valT t ((nbrs t p x y).take (i + 1)) = k2 := by
   rw [take_succ_get hs, valT_snoc, ← hk, hkj]
   exact nxtAt_at hnd hk2
  have kk := fun B' => ih (i + 1) (by omega) k2 B' (by omega)
  rw [hkj]
  simp (maxSteps := 2000000) (disch := omega) [gd_in, gd_and, wr_i64, hrh, hrn, hlt, hlt2, hox, hB, h5, hjl1, hjl2, hz, hrz, wx, wy, hfz, hsn, hsn2, hk3, wi, -Int.natCast_add]
  exact kk _ (by simpa using hB) (by simpa using h5) e1.symm
end Go.Mx.Tryz
