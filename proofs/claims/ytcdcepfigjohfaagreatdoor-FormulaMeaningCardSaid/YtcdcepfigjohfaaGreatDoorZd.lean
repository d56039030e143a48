/- Assume, the program's text: the walk. -/
import Derived.Test.YtcdcepfigjohfaaGreatDoorZb
set_option linter.unusedSimpArgs false
set_option linter.unusedVariables false
set_option linter.unusedSectionVars false
set_option maxRecDepth 100000
namespace Go.Mx.Tryz

def TruQ (l : List Int) (v : V) : Prop := (opp l = true ∧ v = .tu [.m (.nl 1), .m (.b false)]) ∨ (opp l = false ∧ ∃ m, MpL m l ∧ v = .tu [.m (fzB m), .m (.b true)])
theorem opp_snoc {l : List Int} {x : Int} (h : opp l = false) (hx : x ≠ 0) (h2 : ¬ -x ∈ l ++ [x]) : opp (l ++ [x]) = false := by
 cases h3 : opp (l ++ [x]) with
 | false => rfl
 | true =>
  obtain ⟨a, h4, h5⟩ := opp_iff.1 h3
  have h6 : ¬ ∃ a, a ∈ l ∧ -a ∈ l := fun k => by rw [opp_iff.2 k] at h; cases h
  simp only [List.mem_append, List.mem_singleton] at h2 h4 h5
  rcases h4 with h4 | rfl
  ·rcases h5 with h5 | h5
   ·exact absurd ⟨a, h4, h5⟩ h6
   ·exact absurd (.inl (by rw [← h5, Int.neg_neg]; exact h4)) h2
  ·exact absurd h5 h2
theorem truths_s {z : I} {l : List Int} (hz : IsSl z (celI l)) (hl : l.length ≤ 9223372036854775807) (hs : Sm l) (h0 : ∀ x, x ∈ l → x ≠ 0) (HH : Hp) : ∃ v, Gives G 44 [.m z] HH v HH ∧ TruQ l v := by
 have key : ∃ v H', Gives G 44 [.m z] HH v H' ∧ (H' = HH ∧ TruQ l v) := by
  refine gives_of_ret ?_
  refine ret_pur rfl rfl rfl rfl rfl ?_
  generalize hQ : (fun (v : V) (H' : Hp) => H' = HH ∧ TruQ l v) = Q
  have hr := hz.rules
  simp only [celI_len] at hr
  simp (maxSteps := 2000000) (disch := omega) [gd_in, gd_and, wr_i64, hr]
  refine (?key : ∀ (i : Nat) (m : List (Int × Bool)) (B : List (Nat × List V)), i ≤ l.length → MpL m (l.take i) → opp (l.take i) = false → Run G c44_B0 (S44_0 (.mp 0) (.m z) (.m (.i .i64 l.length)) (.m (.i .i64 i)) B [mpR ekI evB m]) _) 0 [] _ (Nat.zero_le _) (fun x => by simp [mfind]) rfl
  refine indM (fun i : Nat => l.length - i) fun i ih m B hi hm ho => ?_
  unfold c44_B0
  cases hx : l[i]? with
  | none =>
   have : i = l.length := by have := List.getElem?_eq_none_iff.1 hx; omega
   subst this
   rw [List.take_length] at hm ho
   have k : Q (.tu [.m (fzB m), .m (.b true)]) HH := by rw [← hQ]; exact ⟨rfl, .inr ⟨ho, m, hm, rfl⟩⟩
   have v1 := view_fzB (H := [mpR ekI evB m]) (r := 0) rfl 18
   simp (maxSteps := 2000000) (disch := omega) [gd_in, gd_and, wr_i64, hr, v1]
   exact k
  | some x =>
   have hlt := (List.getElem?_eq_some_iff.1 hx).1
   have hlt' : (i : Int) < l.length := by omega
   have hn := celI_nth hx
   have hxm := List.mem_of_getElem? hx
   have wi : wr .i64 ((i : Int) + 1) = ((i + 1 : Nat) : Int) := wr_i64 (by omega) (by omega)
   have wx := wr_neg (hs x hxm)
   have hm2 := hm.snoc x
   have hg := hm2 (-x)
   by_cases h : -x ∈ l.take i ++ [x]
   ·rw [decide_eq_true h] at hg
    have k : Q (.tu [.m (.nl 1), .m (.b false)]) HH := by
     rw [← hQ]
     refine ⟨rfl, .inl ⟨opp_iff.2 ⟨x, hxm, ?_⟩, rfl⟩⟩
     rw [← take_succ_get hx] at h
     exact List.mem_of_mem_take h
    simp (maxSteps := 2000000) (disch := omega) [gd_in, gd_and, wr_i64, hr, hlt, hlt', hn, wx, hg]
    exact k
   ·rw [decide_eq_false h] at hg
    have k := ih (i + 1) (by omega) (mset m x true) B (by omega) (by rw [take_succ_get hx]; exact hm2) (by rw [take_succ_get hx]; exact opp_snoc ho (h0 x hxm) h)
    simp (maxSteps := 2000000) (disch := omega) [gd_in, gd_and, wr_i64, hr, hlt, hlt', hn, wx, hg, wi, -Int.natCast_add]
    exact k
 obtain ⟨v, H', h1, rfl, h2⟩ := key
 exact ⟨v, h1, h2⟩

theorem ass1_s {m : List (Int × Bool)} {l : List Int} (hm : MpL m l) (x : Int) (H : Hp) : Gives G 45 [.m (.i .i64 x), .m (.pt [fzB m])] H (.m (.b (decide (x ∈ l)))) H := by
 refine gives_pur rfl rfl rfl rfl rfl ?_
 have h := fun M => fzB_get M m x
 rw [hm x] at h
 simp (maxSteps := 2000000) (disch := omega) [gd_in, gd_and, wr_i64, h, -rx_lkp]
theorem index_a {m : List (Int × Bool)} {l : List Int} (hm : MpL m l) {z : I} {c : List Int} (hz : IsSl z (celI c)) (hc : c.length ≤ 9223372036854775807) (H : Hp) :
  Gives G 59 [.m z, .m (.fn 45 [.pt [fzB m]])] H (.m (.i .i64 (fi (fun x => decide (x ∈ l)) 0 c))) H := by
 refine gives_pur rfl rfl rfl rfl rfl ?_
 have hr := hz.rules
 simp only [celI_len] at hr
 generalize hp : (fun x => decide (x ∈ l)) = p
 simp (maxSteps := 2000000) (disch := omega) [gd_in, gd_and, wr_i64, hr]
 refine (?key : ∀ (i : Nat) (B : List (Nat × List V)), i ≤ c.length → fi p 0 c = fi p i (c.drop i) → Run G c59_B0 (S59_0 (.m z) (.m (.fn 45 [.pt [fzB m]])) (.m (.i .i64 c.length)) (.m (.i .i64 i)) B []) _) 0 [] (Nat.zero_le _) rfl
 refine indM (fun i : Nat => c.length - i) fun i ih B hi hq => ?_
 unfold c59_B0
 cases hx : c[i]? with
 | none =>
  have : i = c.length := by have := List.getElem?_eq_none_iff.1 hx; omega
  subst this
  rw [List.drop_length] at hq
  simp (maxSteps := 2000000) (disch := omega) [gd_in, gd_and, wr_i64, hr, hq, fi]
 | some x =>
  have hlt := (get_drop hx).1
  have hlt' : (i : Int) < c.length := by omega
  have hn := celI_nth hx
  have wi : wr .i64 ((i : Int) + 1) = ((i + 1 : Nat) : Int) := wr_i64 (by omega) (by omega)
  have g := fun H => ass1_s hm x H
  have he : decide (x ∈ l) = p x := by rw [← hp]
  rw [he] at g
  rw [(get_drop hx).2] at hq
  have hg : fi p i (x :: c.drop (i + 1)) = if p x = true then (i : Int) else fi p (i + 1) (c.drop (i + 1)) := rfl
  rw [hg] at hq
  cases h : p x with
  | true =>
   rw [h] at g hq
   rw [if_pos rfl] at hq
   simp (maxSteps := 2000000) (disch := omega) [gd_in, gd_and, wr_i64, hr, hlt, hlt', hn, cl (g _), hq]
  | false =>
   rw [h] at g hq
   rw [if_neg (by simp)] at hq
   have k := ih (i + 1) (by omega) B (by omega) hq
   simp (maxSteps := 2000000) (disch := omega) [gd_in, gd_and, wr_i64, hr, hlt, hlt', hn, cl (g _), wi, -Int.natCast_add]
   exact k
theorem contains_a {m : List (Int × Bool)} {l : List Int} (hm : MpL m l) {z : I} {c : List Int} (hz : IsSl z (celI c)) (hc : c.length ≤ 9223372036854775807) (H : Hp) :
  Gives G 28 [.m z, .m (.fn 45 [.pt [fzB m]])] H (.m (.b (sat l c))) H := by
 refine gives_pur rfl rfl rfl rfl rfl ?_
 have he : sat l c = decide (0 ≤ fi (fun x => decide (x ∈ l)) 0 c) := (fi_any _ _ _).symm
 simp (maxSteps := 2000000) (disch := omega) [gd_in, gd_and, wr_i64, cl (index_a hm hz hc _), he]
end Go.Mx.Tryz
namespace Go.Mx.Tryz

def rowB (m : List (Int × Bool)) : Row := .cs 59 1 [[.m (fzB m)]] 1 false
theorem view_ass {H : Hp} {m : List (Int × Bool)} (h : nth H 0 = some (rowB m)) (w : I) : optMap (view 20 H) [.m w, .fn 45 [.pt 0 1 0 0]] = some [w, .fn 45 [.pt [fzB m]]] := by
 cases H with
 | nil => cases h
 | cons a t =>
  have : a = rowB m := Option.some.inj h
  subst this
  rfl
theorem ld_row {H : Hp} {m : List (Int × Bool)} (h : nth H 0 = some (rowB m)) (B : List (Nat × List V)) : readX ⟨B, H⟩ (.ld false 1) [.pt 0 1 0 0] = some (.m (fzB m)) := by
 cases H with
 | nil => cases h
 | cons a t =>
  have : a = rowB m := Option.some.inj h
  subst this
  rfl
set_option maxHeartbeats 8000000 in
theorem assume_s {z y : I} {zs : List I} {l : List Int} {n : Int} (hz : IsSl z (ones zs)) (hc : Cls zs) (hy : IsSl y (celI l)) (hl : l.length ≤ 30) (h60 : zs.length ≤ 60) (h30 : ∀ y, y ∈ zs → (dI y).length ≤ 30) (HH : Hp) : ∃ v, Gives G 18 [.m (.ag [.i .i64 n, z]), .m y] HH v HH ∧ AsmQ n l zs v := by
 have key : ∃ v H', Gives G 18 [.m (.ag [.i .i64 n, z]), .m y] HH v H' ∧ (H' = HH ∧ AsmQ n l zs v) := by
  refine gives_of_ret ?_
  refine ret_pur rfl rfl rfl rfl rfl ?_
  generalize hQ : (fun (v : V) (H' : Hp) => H' = HH ∧ AsmQ n l zs v) = Q
  have hr := hz.rules
  simp only [ones_len] at hr
  have gR := fun H => right_s hz hc (by omega) n H
  cases hf : frm n zs with
  | false =>
   have k : Q (errV 2) HH := by rw [← hQ]; exact ⟨rfl, by unfold AsmQ; rw [hf]; rfl⟩
   rw [hf] at gR
   simp (maxSteps := 2000000) (disch := omega) [gd_in, gd_and, wr_i64, gcall_cx, slCells hz, slOn hz, cl (gR _)]
   exact k
  | true =>
   rw [hf] at gR
   obtain ⟨hn65, hlz⟩ := frm_lits hf
   have hn0 := frm_len hf
   have gL := fun H => proper_s hy (by omega) n hn0 hn65 H
   cases hll : lits n l with
   | false =>
    have k : Q (errV 2) HH := by rw [← hQ]; exact ⟨rfl, by unfold AsmQ; rw [hf, hll]; rfl⟩
    rw [hll] at gL
    simp (maxSteps := 2000000) (disch := omega) [gd_in, gd_and, wr_i64, gcall_cx, slCells hz, slOn hz, cl (gR _), cl (gL _)]
    exact k
   | true =>
   rw [hll] at gL
   obtain ⟨tv, gT, ht⟩ := truths_s hy (by omega) (lits_sm hn65 hll) (lits_0 hll) []
   have gT := fun H => gives_imm1 rfl rfl gT H
   rcases ht with ⟨hop, rfl⟩ | ⟨hop, m, hm, rfl⟩
   ·have k : Q (errV 2) HH := by rw [← hQ]; exact ⟨rfl, by unfold AsmQ; rw [hf, hll, hop]; rfl⟩
    simp (maxSteps := 2000000) (disch := omega) [gd_in, gd_and, wr_i64, gcall_cx, slCells hz, slOn hz, cl (gR _), cl (gL _), cl (gT _)]
    exact k
   have qk : ∀ v, FrmQ n (asm l (zs.map dI)) v → Q v HH := fun v h => by
    rw [← hQ]
    refine ⟨rfl, ?_⟩
    unfold AsmQ
    rw [hf, hll, hop]
    exact h
   clear hQ
   have cfn : cellsV (.m (fzB m)) = some [.m (fzB m)] := rfl
   have w9 : writeR 1 [[V.m (I.nl 1)]] 0 0 [.m (fzB m)] = some [[.m (fzB m)]] := rfl
   have one9 : oneV (.m (fzB m)) = true := rfl
   simp (maxSteps := 2000000) (disch := omega) [gd_in, gd_and, wr_i64, gcall_cx, slCells hz, slOn hz, cl (gR _), cl (gL _), cl (gT _), cfn, w9, one9, hr]
   have fg := fun M x => fzB_get M m x
   generalize hrow : Row.cs 59 1 [[V.m (fzB m)]] 1 false = row0
   refine (?key : ∀ (i : Nat) (oc : V) (ws : List I) (B : List (Nat × List V)) (H : Hp), i ≤ zs.length → getB B 8 = some [.m (.i .i64 n), oc] → getB B 4 = some [.m (.i .i64 0), .m (.nl 4)] → nth H 0 = some (rowB m) → 1 ≤ H.length → LR 35 ws oc H (1 ≤ ·) → (∀ w, w ∈ ws → IsSl w (celI (dI w)) ∧ (dI w).length ≤ 30) → ws.map dI = asm l ((zs.take i).map dI) → Run G c18_B1 (S18_1 (.fa 4 0) (.pt 0 1 0 0) (.fa 8 0) (.m z) (.m (.i .i64 (zs.length : Int))) (.m (.i .i64 i)) B H) _) 0 (.m (.nl 4)) [] _ [row0] (Nat.zero_le _) rfl rfl (by rw [← hrow]; rfl) (Nat.le_refl _) LR.nil (fun w hw => by simp at hw) rfl
   clear hrow row0
   refine indM (fun i : Nat => zs.length - i) fun i ih oc ws B H hi hB8 hB4 h0 h1 ho hws hwm => ?_
   unfold c18_B1
   obtain ⟨o1, o2, o3, o4⟩ := ho.nf
   have hwl : ws.length ≤ i := by
    have := congrArg List.length hwm
    rw [List.length_map] at this
    rw [this]
    have := asm_len l ((zs.take i).map dI)
    simp only [List.length_map, List.length_take] at this
    omega
   cases hx : zs[i]? with
   | none =>
    have : i = zs.length := by have := List.getElem?_eq_none_iff.1 hx; omega
    subst this
    rw [List.take_length] at hwm
    have hres := qk (.tu [.m (.ag [.i .i64 n, zL ws]), .m (.i .i64 0)]) ⟨zL ws, _, rfl, zL_sl ws, fun w hw => by
     obtain ⟨k1, k2⟩ := hws w hw
     exact ⟨k1, by omega⟩, hwm⟩
    have v1 := ho.view 17
    rcases ho with ⟨rfl, rfl⟩ | ⟨hne, r, hr9, rfl, h3⟩
    ·simp (maxSteps := 2000000) (disch := omega) [gd_in, gd_and, wr_i64, hr, hB8, hB4, v1]
     exact hres
    ·simp (maxSteps := 2000000) (disch := omega) [gd_in, gd_and, wr_i64, hr, hB8, hB4, v1]
     exact hres
   | some w =>
    have hlt := (List.getElem?_eq_some_iff.1 hx).1
    have hlt' : (i : Int) < zs.length := by omega
    have hn := ones_nth hx
    have wi : wr .i64 ((i : Int) + 1) = ((i + 1 : Nat) : Int) := wr_i64 (by omega) (by omega)
    have hwm' := List.mem_of_getElem? hx
    have hw := (hc w hwm').1
    have hwl' := h30 w hwm'
    have hws' := lits_sm hn65 (hlz w hwm')
    have gc := fun (H : Hp) (h : nth H 0 = some (rowB m)) => gives_view (is := [w, .fn 45 [.pt [fzB m]]]) (vs := [.m w, .fn 45 [.pt 0 1 0 0]]) (H := H) rfl rfl (contains_a hm hw (by omega) []) (view_ass h w) (.inr ⟨by simp [refs, ref1], rfl⟩)
    have ih := fun oc ws B H => ih (i + 1) (by omega) oc ws B H (by omega)
    rw [take_succ_get hx, List.map_append, List.map_cons, List.map_nil, asm_snoc] at ih
    cases hsat : sat l (dI w) with
    | true =>
     rw [hsat] at gc
     rw [if_pos hsat] at ih
     simp (maxSteps := 2000000) (disch := omega) [gd_in, gd_and, wr_i64, hr, hlt, hlt', hn, cl (gc H h0), wi, -Int.natCast_add]
     exact ih _ _ _ _ hB8 hB4 h0 h1 ho hws hwm
    | false =>
     rw [hsat] at gc
     rw [if_neg (by rw [hsat]; simp)] at ih
     have hrw := hw.rules
     simp only [celI_len] at hrw
     simp (maxSteps := 2000000) (disch := omega) [gd_in, gd_and, wr_i64, hr, hlt, hlt', hn, cl (gc H h0), hrw, -Int.natCast_add]
     have hdl := rst_len l (dI w)
     have ho1 : LR 35 ws oc H (fun r => 1 ≤ r ∧ r < H.length) := ho.keep (fun _ _ => rfl) (fun r h1 h => ⟨h1, h⟩)
     generalize hn0 : H.length = n0 at ho1 h1
     refine (?key2 : ∀ (j : Nat) (o' : V) (B : List (Nat × List V)) (H' : Hp), j ≤ (dI w).length → getB B 8 = some [.m (.i .i64 n), oc] → getB B 4 = some [.m (.i .i64 0), .m (.nl 4)] → nth H' 0 = some (rowB m) → LR 35 ws oc H' (fun r => 1 ≤ r ∧ r < n0) → LR 3 (iI (rst l ((dI w).take j))) o' H' (n0 ≤ ·) → n0 ≤ H'.length →
      Run G c18_B0 (S18_0 (.fa 4 0) (.pt 0 1 0 0) (.fa 8 0) o' (.m z) (.m (.i .i64 (zs.length : Int))) (.m (.i .i64 i)) (.m w) (.m (.i .i64 ((dI w).length : Int))) (.m (.i .i64 (j : Int))) B H') _) 0 _ _ _ (Nat.zero_le _) hB8 hB4 h0 ho1 LR.nil (by omega)
     clear ho1 ho hB8 hB4 h0
     refine indM (fun j : Nat => (dI w).length - j) fun j ihj o' B H' hj hB8 hB4 h0 ho ho' hnl => ?_
     unfold c18_B0
     obtain ⟨q1, q2, q3, q4⟩ := ho'.nf
     cases hv : (dI w)[j]? with
     | none =>
      have : j = (dI w).length := by have := List.getElem?_eq_none_iff.1 hv; omega
      subst this
      rw [List.take_length] at ho'
      obtain ⟨zz, H3, b1, b2, b3, b4, b5⟩ := ho'.toLW.bsf
      rw [on1_iI] at b2
      have hk3 : LR 35 ws oc H3 (1 ≤ ·) := ho.keep (fun r hr => b5 r hr.2) (fun r hr _ => hr.1)
      have h03 : nth H3 0 = some (rowB m) := (b5 0 (by omega)).trans h0
      obtain ⟨o5, H5, d1, d2, d3, d4, d5, d6⟩ := hk3.push (b := 24) (ys := [zz]) (by omega) (by omega) (by simp; omega) (fun x hx => by rw [List.mem_singleton] at hx; subst hx; exact b3)
      have d1' : ∀ B, loudX (fun _ _ _ => none) ⟨B, H3⟩ (.app 35 1 24) [oc, .ls [[zz]]] = some (o5, ⟨B, H5⟩) := fun B => (loud_elems rfl).trans (d1 B)
      obtain ⟨n1, n2, n3, n4⟩ := d3.nf
      have k := fun B => ih o5 (ws ++ [zz]) B H5
      simp (maxSteps := 2000000) (disch := omega) [gd_in, gd_and, wr_i64, hB8, b1, -loud_app, d1', setC_v q1, setC_v o1, setC_v n1, n2, n3, wi, -Int.natCast_add]
      refine k _ ?_ ?_ ((d6 0 (by omega)).trans h03) d4 d3 (fun u hu => ?_) ?_
      ·simp
      ·simpa using hB4
      ·rcases List.mem_append.1 hu with h | h
       ·exact hws u h
       ·rw [List.mem_singleton] at h
        subst h
        rw [dI_sl b2]
        exact ⟨b2, by omega⟩
      ·rw [List.map_append, hwm, List.map_cons, List.map_nil, dI_sl b2]
     | some x =>
      have hltj := (List.getElem?_eq_some_iff.1 hv).1
      have hltj' : (j : Int) < (dI w).length := by omega
      have hnj := celI_nth hv
      have wj : wr .i64 ((j : Int) + 1) = ((j + 1 : Nat) : Int) := wr_i64 (by omega) (by omega)
      have wx := wr_neg (hws' x (List.mem_of_getElem? hv))
      have hld := ld_row h0
      have hpl : ∀ B, readX ⟨B, H'⟩ (.ld false 1) [.m (.pt [.i .i64 x])] = some (.m (.i .i64 x)) := fun _ => rfl
      have hg := hm (-x)
      have k := fun o B H => ihj (j + 1) (by omega) o B H (by omega)
      rw [take_succ_get hv, rst_snoc] at k
      by_cases h' : -x ∈ l
      ·rw [decide_eq_true h'] at hg
       rw [if_pos h'] at k
       simp (maxSteps := 2000000) (disch := omega) [gd_in, gd_and, wr_i64, hrw, hltj, hltj', hnj, wx, hld, hpl, fg, hg, -rx_lkp, -rx_ld, setC_v q1, wj, -Int.natCast_add]
       exact k _ _ _ hB8 hB4 h0 ho ho' hnl
      ·rw [decide_eq_false h'] at hg
       rw [if_neg h', show ∀ q : List Int, iI (q ++ [x]) = iI q ++ [.i .i64 x] from fun q => (iI_app q [x]).symm] at k
       obtain ⟨o2', H2, a1, a2, a3, a4, a5, a6⟩ := ho'.push (b := 8) (ys := [.i .i64 x]) hnl (by omega) (by
        have := rst_len l ((dI w).take j)
        simp only [iI_len, List.length_take, List.length_cons, List.length_nil] at this ⊢
        omega) (fun u hu => by rw [List.mem_singleton] at hu; subst hu; rfl)
       have a1' : ∀ B, loudX (fun _ _ _ => none) ⟨B, H'⟩ (.app 3 1 8) [o', .ls [[.i .i64 x]]] = some (o2', ⟨B, H2⟩) := fun B => (loud_elems rfl).trans (a1 B)
       simp (maxSteps := 2000000) (disch := omega) [gd_in, gd_and, wr_i64, hrw, hltj, hltj', hnj, wx, hld, hpl, fg, hg, -rx_lkp, -rx_ld, -loud_app, a1', setC_v q1, setC_v a2, wj, -Int.natCast_add]
       exact k _ _ _ hB8 hB4 ((a6 0 (by omega)).trans h0) (ho.keep (fun r hr => a6 r hr.2) (fun r hr _ => hr)) a3 a4
 obtain ⟨v, H', h1, rfl, h2⟩ := key
 exact ⟨v, h1, h2⟩
end Go.Mx.Tryz
