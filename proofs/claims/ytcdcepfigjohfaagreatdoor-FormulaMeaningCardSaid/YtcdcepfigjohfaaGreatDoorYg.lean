/- Sort of formulas, the program's text. -/
import Derived.Test.YtcdcepfigjohfaaGreatDoorYf
set_option linter.unusedSimpArgs false
set_option linter.unusedVariables false
set_option linter.unusedSectionVars false
set_option maxRecDepth 100000
namespace Go.Mx.Tryz

def FrmQ (n : Int) (cls : List (List Int)) (v : V) : Prop := ∃ z zs, v = .tu [.m (.ag [.i .i64 n, z]), .m (.i .i64 0)] ∧ IsSl z (ones zs) ∧ Cls zs ∧ zs.map dI = cls
def SortQ (n : Int) (zs : List I) (v : V) : Prop := if frm n zs = true then FrmQ n (srtC (zs.map dI)) v else v = errV 2
theorem adjO_take : ∀ (l : List Int) (i : Nat) (x y : Int), l[i]? = some x → l[i + 1]? = some y → adjO (l.drop i) = (decide (y = -x) || adjO (l.drop (i + 1)))
 | l, i, x, y, h1, h2 => by
  rw [(get_drop h1).2, (get_drop h2).2]
  rfl
theorem nrms_snoc (a : List (List Int)) (c : List Int) : nrms (a ++ [c]) = nrms a ++ if opp (nrm c) = true then [] else [nrm c] := by
 unfold nrms
 rw [List.map_append, List.filter_append]
 congr 1
 cases h : opp (nrm c) <;> simp [h]

theorem dI_sl {z : I} {q : List Int} (h : IsSl z (celI q)) : dI z = q := by
 rcases h with rfl | ⟨rfl, h⟩
 ·exact dI_celI q
 ·have : q = [] := by simpa [celI] using h
  subst this
  rfl
theorem adjO_end {l : List Int} {t : Nat} (h : l.length ≤ t + 1) : adjO (l.drop t) = false := by
 have hl : (l.drop t).length ≤ 1 := by rw [List.length_drop]; omega
 match l.drop t, hl with
 | [], _ => rfl
 | [x], _ => rfl

set_option maxHeartbeats 8000000 in
theorem sort_s {z : I} {zs : List I} {n : Int} (hz : IsSl z (ones zs)) (hc : Cls zs) (h60 : zs.length ≤ 60) (h30 : ∀ y, y ∈ zs → (dI y).length ≤ 30) (H : Hp) : ∃ v, Gives G 15 [.m (.ag [.i .i64 n, z])] H v H ∧ SortQ n zs v := by
 have key : ∃ v H', Gives G 15 [.m (.ag [.i .i64 n, z])] H v H' ∧ (H' = H ∧ SortQ n zs v) := by
  refine gives_of_ret ?_
  refine ret_pur rfl rfl rfl rfl rfl ?_
  generalize hQ : (fun (v : V) (H' : Hp) => H' = H ∧ SortQ n zs v) = Q
  have hr := hz.rules
  simp only [ones_len] at hr
  have gR := fun H => right_s hz hc (by omega) n H
  cases hf : frm n zs with
  | false =>
   have k : Q (errV 2) H := by rw [← hQ]; exact ⟨rfl, by unfold SortQ; rw [hf]; rfl⟩
   rw [hf] at gR
   simp (maxSteps := 2000000) (disch := omega) [gd_in, gd_and, wr_i64, slCells hz, cl (gR _)]
   exact k
  | true =>
   have qk : ∀ v, FrmQ n (srtC (zs.map dI)) v → Q v H := fun v h => by
    rw [← hQ]
    refine ⟨rfl, ?_⟩
    unfold SortQ
    rw [hf]
    exact h
   clear hQ
   rw [hf] at gR
   obtain ⟨hn65, hlz⟩ := frm_lits hf
   simp (maxSteps := 2000000) (disch := omega) [gd_in, gd_and, wr_i64, slCells hz, cl (gR _), hr]
   refine (?key : ∀ (i : Nat) (oc : V) (ws : List I) (B : List (Nat × List V)) (H : Hp), i ≤ zs.length → getB B 4 = some [.m (.i .i64 n), oc] → getB B 2 = some [.m (.i .i64 0), .m (.nl 4)] → LR 35 ws oc H (0 ≤ ·) → (∀ w, w ∈ ws → IsSl w (celI (dI w)) ∧ oneV (.m w) = true) → ws.map dI = nrms ((zs.take i).map dI) → Run G c15_B1 (S15_1 (.fa 2 0) (.fa 4 0) (.m z) (.m (.i .i64 (zs.length : Nat))) (.m (.i .i64 i)) B H) _) 0 (.m (.nl 4)) [] _ [] (Nat.zero_le _) rfl rfl LR.nil (fun w hw => by simp at hw) rfl
   refine indM (fun i : Nat => zs.length - i) fun i ih oc ws B H hi hB4 hB2 ho hws hwm => ?_
   unfold c15_B1
   obtain ⟨o1, o2, o3, o4⟩ := ho.nf
   have hwl : ws.length ≤ i := by
    have := congrArg List.length hwm
    rw [List.length_map] at this
    rw [this]
    unfold nrms
    have := List.length_filter_le (fun c => !opp c) (((zs.take i).map dI).map nrm)
    simp only [List.length_map, List.length_take] at this
    omega
   cases hx : zs[i]? with
   | none =>
    have : i = zs.length := by have := List.getElem?_eq_none_iff.1 hx; omega
    subst this
    rw [List.take_length] at hwm
    have hfn : ∀ r, r < H.length → nth (H ++ [Row.cs 55 1 [[.m (.fn 36 [])]] 1 false]) r = nth H r := fun r hr => nl_app _ _ _ hr
    have hw1 : LR 35 ws oc (H ++ [Row.cs 55 1 [[.m (.fn 36 [])]] 1 false]) (· < H.length) := (ho.keep (H' := H) (ok' := (· < H.length)) (fun _ _ => rfl) (fun r _ h => h)).keep (fun r hr => hfn r hr) (fun r hr _ => hr)
    have hws2 : ∀ w, w ∈ ws → IsSl w (celI (dI w)) ∧ (dI w).length ≤ 30 ∧ Sm (dI w) := fun w hw => by
     have hm : dI w ∈ nrms (zs.map dI) := by rw [← hwm]; exact List.mem_map.2 ⟨w, hw, rfl⟩
     obtain ⟨⟨d, hd, he⟩, _⟩ := mem_nrms.1 hm
     obtain ⟨u, hu, rfl⟩ := List.mem_map.1 hd
     refine ⟨(hws w hw).1, ?_, ?_⟩
     ·rw [← he]
      have := srtU_len litLt (dI u)
      have := h30 u hu
      unfold nrm
      omega
     ·rw [← he]
      exact fun x hx => lits_sm hn65 (hlz u hu) x (mem_nrm.1 hx)
    obtain ⟨ys, H1, g1, b1, b2, b3, b4, b5⟩ := hw1.toLF.sort (F := 38) rfl (g := .m (.fn 36 [])) rfl rfl (by omega) (fun x hx => (hws x hx).2) (c := fun x y => cmpR (dI x) (dI y)) (fun x hx y hy => by
     obtain ⟨k1, k2, k3⟩ := hws2 x hx
     obtain ⟨j1, j2, j3⟩ := hws2 y hy
     exact sort1_s k1 j1 (by omega) (by omega) k3 j3 []) ⟨fun x _ => by
     rw [decide_eq_false_iff_not, cmpR_iff.1, sto_lex.irr]
     simp, fun x _ y _ z _ h1 h2 => by
     rw [decide_eq_true_eq, cmpR_iff.1] at h1 h2 ⊢
     exact sto_lex.tr _ _ _ h1 h2, fun x _ y _ z _ h1 h2 => by
     rw [decide_eq_false_iff_not, cmpR_iff.1, Bool.not_eq_true] at h1 h2 ⊢
     cases h3 : lexLt (dI x) (dI z) with
     | false => rfl
     | true =>
      rcases sto_lex.tot (dI x) (dI y) with k | k | k
      ·rw [h1] at k; cases k
      ·rw [← k, h3] at h2; cases h2
      ·have := sto_lex.tr _ _ _ k h3
       rw [h2] at this; cases this⟩
    have hys2 : ∀ w, w ∈ ys → IsSl w (celI (dI w)) ∧ (dI w).length ≤ 30 ∧ Sm (dI w) := fun w hw => hws2 w (b1.mem_iff.1 hw)
    have hn9 : nth H1 H.length = some (Row.cs 55 1 [[.m (.fn 36 [])]] 1 false) := by
     rw [b5 H.length (by simp)]
     exact nl_end H _ 0
    obtain ⟨o2, H2, g2, d1, d2, d3⟩ := compactF_s b3 (by rw [b1.length_eq]; omega) (fun x hx => (hws x (b1.mem_iff.1 hx)).2) (f := 40) (cap := [.pt H.length 1 0 0]) (eq := fun x y => decide (dI x = dI y)) rfl (fun H' hk x hx y hy => by
     obtain ⟨k1, k2, k3⟩ := hys2 x hx
     obtain ⟨j1, j2, j3⟩ := hys2 y hy
     refine gives_view (is := [x, y, .pt [.fn 36 []]]) rfl rfl (sort2_s k1 j1 (by omega) (by omega) k3 j3 []) ?_ (.inr ⟨by simp [refs, ref1], rfl⟩)
     have hr9 : nth H' H.length = some (Row.cs 55 1 [[.m (.fn 36 [])]] 1 false) := by
      rw [hk H.length (by simp)]
      exact hn9
     have hv : Mx.view 20 H' (.pt H.length 1 0 0) = some (.pt [.fn 36 []]) := by
      show (nth H' H.length).bind _ = _
      rw [hr9]
      show Option.bind (readA ⟨[], H'⟩ 1 (.pt H.length 1 0 0)) _ = _
      have e : readA ⟨[], H'⟩ 1 (.pt H.length 1 0 0) = some [.m (.fn 36 [])] := by
       show (nth H' H.length).bind _ = _
       rw [hr9]
       rfl
      rw [e]
      rfl
     show Option.bind (some x) _ = _
     simp only [Option.bind_some, optMap, hv]
     rfl)
    have hfin : (cB (fun x y => decide (dI x = dI y)) ys).map dI = srtC (zs.map dI) := by
     unfold cB
     rw [cB_map (f := dI) _ fun x _ y _ => rfl, List.reverse_reverse]
     refine cmpct_srt sto_lex ?_ fun c => ?_
     ·rw [List.pairwise_map]
      exact b2.imp fun h => by
       rw [decide_eq_false_iff_not, cmpR_iff.1, Bool.not_eq_true] at h
       exact h
     ·rw [(b1.map dI).mem_iff, hwm]
    obtain ⟨zv, v1, v2, v3⟩ := d1.view 17
    obtain ⟨m1, m2, m3, m4⟩ := d1.nf
    have hres := qk (.tu [.m (.ag [.i .i64 n, zv]), .m (.i .i64 0)]) ⟨zv, _, rfl, v2, fun w hw => by
     obtain ⟨k1, k2, _⟩ := hys2 w (cB_mem hw)
     exact ⟨k1, by omega⟩, hfin⟩
    have am : allM [V.ls []] = none := rfl
    have cfn : cellsV (.m (.fn 36 [])) = some [.m (.fn 36 [])] := rfl
    have w9 : writeR 1 [[V.m (I.nl 2)]] 0 0 [.m (.fn 36 [])] = some [[.m (.fn 36 [])]] := rfl
    have one9 : oneV (.m (.fn 36 [])) = true := rfl
    rcases d1 with ⟨he, rfl | rfl⟩ | ⟨r, es, base, lim, hr9, rfl, k3, k4, k5, k6⟩
    all_goals
     simp (maxSteps := 2000000) (disch := omega) [gd_in, gd_and, wr_i64, hr, hB4, hB2, am, v1, nth_mid, setEl_mid, cfn, w9, one9, cl g1, cl g2, setC_v o1]
     first
      | exact hres
      | (cases v1; exact hres)
   | some y =>
    have hlt := (List.getElem?_eq_some_iff.1 hx).1
    have hlt' : (i : Int) < zs.length := by omega
    have hn := ones_nth hx
    have wi : wr .i64 ((i : Int) + 1) = ((i + 1 : Nat) : Int) := wr_i64 (by omega) (by omega)
    have hym := List.mem_of_getElem? hx
    have hy := (hc y hym).1
    have hyl := h30 y hym
    have hys := lits_sm hn65 (hlz y hym)
    have hy0 : ∀ x, x ∈ nrm (dI y) → x ≠ 0 := fun x hx => lits_0 (hlz y hym) x (mem_nrm.1 hx)
    obtain ⟨p0, H0, H1, p, H2, g0, g1, g2, a1, a2, a3, a4⟩ := norm_s hy (by omega) hys H
    have hnl : (nrm (dI y)).length ≤ 30 := by
     have := srtU_len litLt (dI y)
     unfold nrm
     omega
    have hns : Sm (nrm (dI y)) := fun x hx => hys x (mem_nrm.1 hx)
    have hnx : nrms ((zs.take (i + 1)).map dI) = ws.map dI ++ if opp (nrm (dI y)) = true then [] else [nrm (dI y)] := by
     rw [take_succ_get hx, List.map_append, hwm]
     exact nrms_snoc _ _
    have hadj : adjO (nrm (dI y)) = opp (nrm (dI y)) := adjO_opp (srtU_inc sto_lit _) hy0
    have ih := fun oc ws B H => ih (i + 1) (by omega) oc ws B H (by omega)
    rw [hnx] at ih
    generalize nrm (dI y) = q at *
    obtain ⟨q1, q2, q3, q4⟩ := a2.nf
    simp only [iI_len] at q4
    simp (maxSteps := 2000000) (disch := omega) [gd_in, gd_and, wr_i64, hr, hlt, hlt', hn, cl g0, cl g1, cl g2, setC_v a1, setC_v q1, -Int.natCast_add]
    have hk2 : LR 35 ws oc H2 (· < H.length) := (ho.keep (H' := H) (ok' := (· < H.length)) (fun _ _ => rfl) (fun r _ h => h)).keep (fun r hr => a4 r hr) (fun r hr _ => hr)
    refine (?key2 : ∀ (t : Nat) (B : List (Nat × List V)), getB B 4 = some [.m (.i .i64 n), oc] → getB B 2 = some [.m (.i .i64 0), .m (.nl 4)] → adjO q = adjO (q.drop t) → Run G c15_B0 (S15_0 (.fa 2 0) (.fa 4 0) p (.m (.i .i64 ((t + 1 : Nat) : Int))) (.m z) (.m (.i .i64 (zs.length : Nat))) (.m (.i .i64 i)) B H2) _) 0 _ hB4 hB2 rfl
    refine indM (fun t : Nat => q.length - t) fun t iht B hB4 hB2 hq => ?_
    unfold c15_B0
    by_cases ht : t + 1 < q.length
    ·have ht' : ((t + 1 : Nat) : Int) < q.length := by omega
     obtain ⟨x, hx1⟩ : ∃ x, q[t]? = some x := ⟨q[t], List.getElem?_eq_getElem (by omega)⟩
     obtain ⟨w, hx2⟩ : ∃ w, q[t + 1]? = some w := ⟨q[t + 1], List.getElem?_eq_getElem ht⟩
     obtain ⟨e1, e2, e3, e4⟩ := a2.rd (iI_get hx1)
     obtain ⟨f1, f2, f3, f4⟩ := a2.rd (iI_get hx2)
     have wt : wr .i64 (((t + 1 : Nat) : Int) - 1) = (t : Int) := by rw [wr_i64 (by omega) (by omega)]; omega
     have wt2 : wr .i64 (((t + 1 : Nat) : Int) + 1) = ((t + 1 + 1 : Nat) : Int) := wr_i64 (by omega) (by omega)
     have wx := wr_neg (hns x (List.mem_of_getElem? hx1))
     rw [adjO_take q t x w hx1 hx2] at hq
     by_cases hxw : w = -x
     ·have hop : opp q = true := by rw [← hadj, hq, decide_eq_true hxw]; rfl
      have k := fun B => ih oc ws B H2
      rw [hop, if_pos rfl, List.append_nil] at k
      simp (maxSteps := 2000000) (disch := omega) [gd_in, gd_and, wr_i64, q4, ht, ht', e2, e4, f2, f4, wt, wx, hxw, wi, setC_v q1, setC_v e3, setC_v f3, -Int.natCast_add]
      exact k _ hB4 hB2 (hk2.keep (fun _ _ => rfl) (fun _ _ _ => Nat.zero_le _)) hws rfl
     ·rw [decide_eq_false hxw, Bool.false_or] at hq
      have k := fun B => iht (t + 1) (by omega) B
      simp (maxSteps := 2000000) (disch := omega) [gd_in, gd_and, wr_i64, q4, ht, ht', e2, e4, f2, f4, wt, wt2, wx, hxw, setC_v q1, setC_v e3, setC_v f3, -Int.natCast_add]
      exact k _ hB4 hB2 hq
    ·have ht' : ¬ ((t + 1 : Nat) : Int) < q.length := by omega
     have hop : opp q = false := by rw [← hadj, hq]; exact adjO_end (by omega)
     obtain ⟨zz, H3, b1, b2, b3, b4, b5⟩ := a2.bsf
     rw [on1_iI] at b2
     have hk3 : LR 35 ws oc H3 (0 ≤ ·) := hk2.keep (fun r hr => b5 r hr) (fun _ _ _ => Nat.zero_le _)
     obtain ⟨o5, H5, d1, d2, d3, d4, d5, d6⟩ := hk3.push (b := 24) (ys := [zz]) (Nat.zero_le _) (by omega) (by simp; omega) (fun x hx => by rw [List.mem_singleton] at hx; subst hx; exact b3)
     have d1' : ∀ B, loudX (fun _ _ _ => none) ⟨B, H3⟩ (.app 35 1 24) [oc, .ls [[zz]]] = some (o5, ⟨B, H5⟩) := fun B => (loud_elems rfl).trans (d1 B)
     obtain ⟨n1, n2, n3, n4⟩ := d3.nf
     have k := fun B => ih o5 (ws ++ [zz]) B H5
     rw [hop, if_neg (by simp)] at k
     simp (maxSteps := 2000000) (disch := omega) [gd_in, gd_and, wr_i64, q4, ht, ht', hB4, b1, -loud_app, d1', setC_v q1, setC_v o1, setC_v n1, n2, n3, wi, -Int.natCast_add]
     refine k _ (by simp) (by simpa using hB2) d3 (fun w hw => ?_) (by rw [List.map_append]; congr 1; show [dI zz] = [q]; rw [dI_sl b2])
     rcases List.mem_append.1 hw with hw | hw
     ·exact hws w hw
     ·rw [List.mem_singleton] at hw
      subst hw
      rw [dI_sl b2]
      exact ⟨b2, b3⟩
 obtain ⟨v, H', h1, rfl, h2⟩ := key
 exact ⟨v, h1, h2⟩
end Go.Mx.Tryz
