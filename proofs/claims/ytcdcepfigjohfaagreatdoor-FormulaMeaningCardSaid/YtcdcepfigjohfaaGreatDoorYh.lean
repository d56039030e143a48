/- Sort of formulas, the reference's text. -/
import Derived.Test.YtcdcepfigjohfaaGreatDoorYg
set_option linter.unusedSimpArgs false
set_option linter.unusedVariables false
set_option linter.unusedSectionVars false
set_option maxRecDepth 100000
namespace Go.Mx
theorem insU_cutG {α : Type} [DecidableEq α] {lt : α → α → Bool} {x : α} : ∀ {out : List α} (k : Nat), k ≤ out.length → (∀ j y, j < k → out[j]? = some y → lt y x = true) → insU lt x out = out.take k ++ insU lt x (out.drop k)
 | [], k, hk, _ => by
  have : k = 0 := by simpa using hk
  subst this
  rfl
 | y :: r, 0, _, _ => rfl
 | y :: r, k + 1, hk, h => by
  have h0 := h 0 y (by omega) rfl
  have e : insU lt x (y :: r) = y :: insU lt x r := by
   show (if lt y x = true then y :: insU lt x r else _) = _
   rw [if_pos h0]
  rw [e, insU_cutG k (by simpa using hk) fun j z hj hz => h (j + 1) z (by omega) hz]
  rfl
theorem insU_stopG {α : Type} [DecidableEq α] {lt : α → α → Bool} {x : α} {out : List α} {k : Nat} (h : ∀ y, out[k]? = some y → lt y x = false) : insU lt x (out.drop k) = if out[k]? = some x then out.drop k else x :: out.drop k := by
 cases hd : out[k]? with
 | none =>
  have := List.getElem?_eq_none_iff.1 hd
  rw [List.drop_eq_nil_of_le this]
  rfl
 | some y =>
  rw [(get_drop hd).2]
  show (if lt y x = true then _ else if x = y then _ else _) = _
  rw [h y hd, if_neg (by simp)]
  by_cases e : x = y
  ·subst e
   rw [if_pos rfl, if_pos rfl]
  ·rw [if_neg e, if_neg fun h => e (Option.some.inj h).symm]
end Go.Mx
namespace Go.Mx.Tryz
theorem bsf_imm {w : I} (hw : oneV (.m w) = true) (H : Hp) (B : List (Nat × List V)) : loudX (fun _ _ _ => none) ⟨B, H⟩ (.bsf 1 [.m (.nl 4)] 1 [0]) [.m w] = some (.ls [[w]], ⟨B, H⟩) := by
 cases w <;> first | rfl | (simp [oneV] at hw)
theorem srtC_snoc (a : List (List Int)) (c : List Int) : srtC (a ++ [c]) = if opp (nrm c) = true then srtC a else insU lexLt (nrm c) (srtC a) := by
 unfold srtC
 rw [nrms_snoc]
 split
 ·rw [List.append_nil]
 ·exact srtU_snoc _ _

set_option maxHeartbeats 8000000 in
theorem sort_r {z : I} {zs : List I} {n : Int} (hz : IsSl z (ones zs)) (hc : Cls zs) (h60 : zs.length ≤ 60) (h30 : ∀ y, y ∈ zs → (dI y).length ≤ 30) (H : Hp) : ∃ v, Gives G 16 [.m (.ag [.i .i64 n, z])] H v H ∧ SortQ n zs v := by
 have key : ∃ v H', Gives G 16 [.m (.ag [.i .i64 n, z])] H v H' ∧ (H' = H ∧ SortQ n zs v) := by
  refine gives_of_ret ?_
  refine ret_pur rfl rfl rfl rfl rfl ?_
  generalize hQ : (fun (v : V) (H' : Hp) => H' = H ∧ SortQ n zs v) = Q
  have hr := hz.rules
  simp only [ones_len] at hr
  have gR := fun H => right_r hz hc (by omega) n H
  cases hf : frm n zs with
  | false =>
   have k : Q (errV 2) H := by rw [← hQ]; exact ⟨rfl, by unfold SortQ; rw [hf]; rfl⟩
   rw [hf] at gR
   simp (maxSteps := 2000000) (disch := omega) [gd_in, gd_and, wr_i64, slCells hz, cl (gR _)]
   exact k
  | true =>
   have qk : ∀ v, FrmQ n (srtC (zs.map dI)) v → Q v H := fun v h => by
    rw [← hQ]
    refine ⟨rfl, ?_⟩
    unfold SortQ
    rw [hf]
    exact h
   clear hQ
   rw [hf] at gR
   obtain ⟨hn65, hlz⟩ := frm_lits hf
   simp (maxSteps := 2000000) (disch := omega) [gd_in, gd_and, wr_i64, slCells hz, cl (gR _), hr]
   refine (?key : ∀ (i : Nat) (oc : V) (ws : List I) (B : List (Nat × List V)) (H : Hp), i ≤ zs.length → getB B 1 = some [.m (.i .i64 n), .m z] → getB B 4 = some [.m (.i .i64 n), oc] → getB B 2 = some [.m (.i .i64 0), .m (.nl 4)] → LR 35 ws oc H (fun _ => True) → (∀ w, w ∈ ws → IsSl w (celI (dI w)) ∧ oneV (.m w) = true ∧ (dI w).length ≤ 30 ∧ Sm (dI w)) → ws.map dI = srtC ((zs.take i).map dI) → Run G c16_B1 (S16_1 (.fa 1 0) (.fa 2 0) (.fa 4 0) (.m (.i .i64 i)) B H) _) 0 (.m (.nl 4)) [] _ [] (Nat.zero_le _) rfl rfl rfl LR.nil (fun w hw => by simp at hw) rfl
   refine indM (fun i : Nat => zs.length - i) fun i ih oc ws B H hi hB1 hB4 hB2 ho hws hwm => ?_
   unfold c16_B1
   obtain ⟨o1, o2, o3, o4⟩ := ho.nf
   have hwl : ws.length ≤ i := by
    have := congrArg List.length hwm
    rw [List.length_map] at this
    rw [this]
    have := srtC_len ((zs.take i).map dI)
    simp only [List.length_map, List.length_take] at this
    omega
   cases hx : zs[i]? with
   | none =>
    have : i = zs.length := by have := List.getElem?_eq_none_iff.1 hx; omega
    subst this
    rw [List.take_length] at hwm
    have hres := qk (.tu [.m (.ag [.i .i64 n, zL ws]), .m (.i .i64 0)]) ⟨zL ws, _, rfl, zL_sl ws, fun w hw => by
     obtain ⟨k1, _, k2, _⟩ := hws w hw
     exact ⟨k1, by omega⟩, hwm⟩
    have v1 := ho.view 17
    rcases ho with ⟨rfl, rfl⟩ | ⟨hne, r, hr9, rfl, h3⟩
    ·simp (maxSteps := 2000000) (disch := omega) [gd_in, gd_and, wr_i64, hr, hB1, hB4, hB2, v1]
     exact hres
    ·simp (maxSteps := 2000000) (disch := omega) [gd_in, gd_and, wr_i64, hr, hB1, hB4, hB2, v1]
     exact hres
   | some y =>
    have hlt := (List.getElem?_eq_some_iff.1 hx).1
    have hlt' : (i : Int) < zs.length := by omega
    have hn := ones_nth hx
    have wi : wr .i64 ((i : Int) + 1) = ((i + 1 : Nat) : Int) := wr_i64 (by omega) (by omega)
    have hym := List.mem_of_getElem? hx
    have hy := (hc y hym).1
    have hyl := h30 y hym
    have hys := lits_sm hn65 (hlz y hym)
    have hnl : (nrm (dI y)).length ≤ 30 := by
     have := srtU_len litLt (dI y)
     unfold nrm
     omega
    have hns : Sm (nrm (dI y)) := fun x hx => hys x (mem_nrm.1 hx)
    have hnx : srtC ((zs.take (i + 1)).map dI) = if opp (nrm (dI y)) = true then ws.map dI else insU lexLt (nrm (dI y)) (ws.map dI) := by
     rw [take_succ_get hx, List.map_append, hwm]
     exact srtC_snoc _ _
    have g1 := fun H => sorted_r hy (by omega) hys H
    have g2 := fun H => opposed_r (zI_sl (nrm (dI y))) (by omega) hns H
    have hqz := zI_sl (nrm (dI y))
    have hq1 : oneV (.m (zI (nrm (dI y)))) = true := zL_one _
    have ih := fun oc ws B H => ih (i + 1) (by omega) oc ws B H (by omega)
    rw [hnx] at ih
    have hdq := dI_zI (nrm (dI y))
    generalize nrm (dI y) = q at *
    cases hop : opp q with
    | true =>
     rw [hop] at g2
     have k := fun B => ih oc ws B H
     rw [hop, if_pos rfl] at k
     simp (maxSteps := 2000000) (disch := omega) [gd_in, gd_and, wr_i64, hr, hB1, hlt, hlt', hn, cl (g1 _), cl (g2 _), wi, -Int.natCast_add]
     exact k _ hB1 hB4 hB2 ho hws rfl
    | false =>
     rw [hop] at g2
     have k := fun oc ws B H => ih oc ws B H
     rw [hop, if_neg (by simp)] at k
     simp (maxSteps := 2000000) (disch := omega) [gd_in, gd_and, wr_i64, hr, hB1, hlt, hlt', hn, cl (g1 _), cl (g2 _), -Int.natCast_add]
     have ho0 : LR 35 ws oc H (fun r => r < H.length) := ho.keep (fun _ _ => rfl) (fun r _ h => h)
     generalize hn0 : H.length = n0 at ho0
     refine (?key2 : ∀ (j : Nat) (o' : V) (B : List (Nat × List V)) (H' : Hp), j ≤ ws.length → getB B 1 = some [.m (.i .i64 n), .m z] → getB B 4 = some [.m (.i .i64 n), oc] → getB B 2 = some [.m (.i .i64 0), .m (.nl 4)] → LR 35 ws oc H' (· < n0) → LR 35 (ws.take j) o' H' (n0 ≤ ·) → n0 ≤ H'.length → (∀ t u, t < j → (ws.map dI)[t]? = some u → lexLt u q = true) →
      Run G c16_B0 (S16_0 (.fa 1 0) (.fa 2 0) (.fa 4 0) (.m (.i .i64 i)) (.m (zI q)) o' (.m (.i .i64 (j : Int))) B H') _) 0 _ _ _ (Nat.zero_le _) hB1 hB4 hB2 ho0 LR.nil (by omega) (fun t u ht => by omega)
     clear ho0 ho ih hB1 hB2 hB4
     refine indM (fun j : Nat => ws.length - j) fun j ihj o' B H' hj hB1 hB4 hB2 ho ho' hnl2 hjj => ?_
     unfold c16_B0
     have wj : wr .i64 ((j : Int) + 1) = ((j + 1 : Nat) : Int) := wr_i64 (by omega) (by omega)
     obtain ⟨q1, q2, q3, q4⟩ := ho'.nf
     have aq : noAg [zI q] := fun u hu => by rw [List.mem_singleton] at hu; subst hu; exact hq1
     have bq := fun H B => bsf_imm hq1 H B
     have tail : ∀ (us : List I) (o2 : V) (H2 : Hp), LR 35 us o2 H2 (n0 ≤ ·) → n0 ≤ H2.length → us.length ≤ 200 → (∀ r, r < n0 → nth H2 r = nth H' r) → ∃ p1 o3 H3, pureX (.slc 1 true false false) [oc, .m (.i .i64 (j : Int))] = some p1 ∧ noFaV p1 = true ∧ (∀ B, loudX (fun _ _ _ => none) ⟨B, H2⟩ (.app 35 1 24) [o2, p1] = some (o3, ⟨B, H3⟩)) ∧ noFaV o3 = true ∧ cellsV o3 = some [o3] ∧ oneV o3 = true ∧ LR 35 (us ++ ws.drop j) o3 H3 (fun _ => True) := fun us o2 H2 h1 h2 hul h3 => by
      have hoo := ho.keep (H' := H2) (ok' := (· < n0)) (fun r hr => h3 r hr) (fun r hr _ => hr)
      obtain ⟨p1, b1, b2, b3⟩ := hoo.from (k := j) hj
      obtain ⟨o3, H3, d1, d2, d3, d4, d5, d6⟩ := h1.push (b := 24) (ys := ws.drop j) h2 (by omega) (by simp; omega) (fun w hw => (hws w (List.mem_of_mem_drop hw)).2.1)
      obtain ⟨n1, n2, n3, n4⟩ := d3.nf
      exact ⟨p1, o3, H3, b1, b2, fun B => (loud_elems b3).trans (d1 B), n1, n2, n3, d3.keep (fun _ _ => rfl) (fun _ _ _ => trivial)⟩
     have fin1 : (∀ u, (ws.map dI)[j]? = some u → lexLt u q = false ∧ u ≠ q) → (ws.take j ++ [zI q] ++ ws.drop j).map dI = insU lexLt q (ws.map dI) := fun h => by
      rw [insU_cutG j (by simpa using hj) hjj, insU_stopG fun u hu => (h u hu).1, if_neg fun e => (h q e).2 rfl]
      simp [hdq]
     have fin2 : (ws.map dI)[j]? = some q → (ws.take j ++ ws.drop j).map dI = insU lexLt q (ws.map dI) := fun h => by
      rw [insU_cutG j (by simpa using hj) hjj, insU_stopG fun u hu => by rw [h] at hu; cases hu; exact sto_lex.irr q, if_pos h]
      simp
     have hmem : ∀ (us : List I), (∀ w, w ∈ us → w = zI q ∨ w ∈ ws) → ∀ w, w ∈ us → IsSl w (celI (dI w)) ∧ oneV (.m w) = true ∧ (dI w).length ≤ 30 ∧ Sm (dI w) := fun us h w hw => by
      rcases h w hw with rfl | h
      ·rw [hdq]
       exact ⟨hqz, hq1, hnl, hns⟩
      ·exact hws w h
     have hin1 : ∀ w, w ∈ ws.take j ++ [zI q] ++ ws.drop j → w = zI q ∨ w ∈ ws := fun w hw => by
      simp only [List.mem_append, List.mem_singleton] at hw
      rcases hw with (h | h) | h
      ·exact .inr (List.mem_of_mem_take h)
      ·exact .inl h
      ·exact .inr (List.mem_of_mem_drop h)
     have hin2 : ∀ w, w ∈ ws.take j ++ ws.drop j → w = zI q ∨ w ∈ ws := fun w hw => by
      rw [List.take_append_drop] at hw
      exact .inr hw
     obtain ⟨o2, H2, a1, a2, a3, a4, a5, a6⟩ := ho'.push (b := 24) (ys := [zI q]) hnl2 (by omega) (by simp; omega) aq
     have a1' : ∀ B, loudX (fun _ _ _ => none) ⟨B, H'⟩ (.app 35 1 24) [o', .ls [[zI q]]] = some (o2, ⟨B, H2⟩) := fun B => (loud_elems rfl).trans (a1 B)
     cases hw : ws[j]? with
     | none =>
      have hjl := List.getElem?_eq_none_iff.1 hw
      have hje : j = ws.length := by omega
      subst hje
      obtain ⟨p1, o3, H3, t1, t2, t3, t4, t5, t6, t7⟩ := tail _ o2 H2 a3 a4 (by simp; omega) a6
      have kk := fun B => k o3 (ws.take ws.length ++ [zI q] ++ ws.drop ws.length) B H3
      simp (maxSteps := 2000000) (disch := omega) [gd_in, gd_and, wr_i64, gcall_cx, hB1, hB4, hB2, o4, bq, -loud_app, a1', t1, t3, setC_v o1, setC_v q1, setC_v a2, setC_v t2, setC_v t4, t5, t6, wi, -Int.natCast_add]
      exact kk _ (by simp [hB1]) (by simp) (by simp [hB2]) t7 (hmem _ hin1) (fin1 fun u h => by
       rw [List.getElem?_map, hw] at h
       cases h)
     | some u =>
      have hjl := (List.getElem?_eq_some_iff.1 hw).1
      have hjl' : (j : Int) < ws.length := by omega
      have hjne : ¬ (j : Int) = ws.length := by omega
      obtain ⟨u1, u2, u3, u4⟩ := hws u (List.mem_of_getElem? hw)
      obtain ⟨p, e1, e2, e3⟩ := ho.rd hw
      have gc := fun H => compare_r u1 hqz (by omega) (by omega) u4 hns H
      have bu := fun H B => bsf_imm u2 H B
      have hwj : (ws.map dI)[j]? = some (dI u) := by rw [List.getElem?_map, hw]; rfl
      cases hl : lexLt (dI u) q with
      | true =>
       have hlt0 := cmpR_iff.1.2 hl
       generalize cmpR (dI u) q = cv at *
       have au : noAg [u] := fun w hw => by rw [List.mem_singleton] at hw; subst hw; exact u2
       obtain ⟨o4', H4, c1, c2, c3, c4, c5, c6⟩ := ho'.push (b := 24) (ys := [u]) hnl2 (by omega) (by simp; omega) au
       have c1' : ∀ B, loudX (fun _ _ _ => none) ⟨B, H'⟩ (.app 35 1 24) [o', .ls [[u]]] = some (o4', ⟨B, H4⟩) := fun B => (loud_elems rfl).trans (c1 B)
       rw [← take_succ_get hw] at c3
       have kk := fun B => ihj (j + 1) (by omega) o4' B H4 (by omega)
       simp (maxSteps := 2000000) (disch := omega) [gd_in, gd_and, wr_i64, gcall_cx, hB1, hB4, hB2, o4, hjl, hjl', e1, e3, cl (gc _), hlt0, bu, -loud_app, c1', setC_v o1, setC_v q1, setC_v c2, setC_v e2, wj, -Int.natCast_add]
       refine kk _ hB1 hB4 hB2 (ho.keep (fun r hr => c6 r hr) (fun r hr _ => hr)) c3 c4 fun t v ht hv => ?_
       by_cases c : t < j
       ·exact hjj t v c hv
       ·have : t = j := by omega
        subst this
        rw [hwj] at hv
        cases hv
        exact hl
      | false =>
       have hlt0 : ¬ cmpR (dI u) q < 0 := fun h => by rw [cmpR_iff.1.1 h] at hl; cases hl
       by_cases he : dI u = q
       ·have h0 := cmpR_iff.2.2 he
        rw [h0] at gc
        obtain ⟨p1, o3, H3, t1, t2, t3, t4, t5, t6, t7⟩ := tail _ o' H' ho' hnl2 (by simp; omega) (fun _ _ => rfl)
        have kk := fun B => k o3 (ws.take j ++ ws.drop j) B H3
        simp (maxSteps := 2000000) (disch := omega) [gd_in, gd_and, wr_i64, gcall_cx, hB1, hB4, hB2, o4, hjl, hjl', hjne, e1, e3, cl (gc _), -loud_app, t1, t3, setC_v o1, setC_v q1, setC_v t2, setC_v e2, setC_v t4, t5, t6, wi, -Int.natCast_add]
        exact kk _ (by simp [hB1]) (by simp) (by simp [hB2]) t7 (hmem _ hin2) (fin2 (by rw [hwj, he]))
       ·have h0 : ¬ cmpR (dI u) q = 0 := fun h => he (cmpR_iff.2.1 h)
        generalize cmpR (dI u) q = cv at *
        obtain ⟨p1, o3, H3, t1, t2, t3, t4, t5, t6, t7⟩ := tail _ o2 H2 a3 a4 (by simp; omega) a6
        have kk := fun B => k o3 (ws.take j ++ [zI q] ++ ws.drop j) B H3
        simp (maxSteps := 2000000) (disch := omega) [gd_in, gd_and, wr_i64, gcall_cx, hB1, hB4, hB2, o4, hjl, hjl', hjne, e1, e3, cl (gc _), hlt0, h0, bq, -loud_app, a1', t1, t3, setC_v o1, setC_v q1, setC_v a2, setC_v t2, setC_v e2, setC_v t4, t5, t6, wi, -Int.natCast_add]
        exact kk _ (by simp [hB1]) (by simp) (by simp [hB2]) t7 (hmem _ hin1) (fin1 fun v hv => by
         rw [hwj] at hv
         cases hv
         exact ⟨hl, he⟩)
 obtain ⟨v, H', h1, rfl, h2⟩ := key
 exact ⟨v, h1, h2⟩
end Go.Mx.Tryz
