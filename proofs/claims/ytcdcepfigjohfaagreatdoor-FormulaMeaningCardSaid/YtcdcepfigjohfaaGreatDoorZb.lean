/- Assume, both texts. -/
import Derived.Test.YtcdcepfigjohfaaGreatDoorZa
set_option linter.unusedSimpArgs false
set_option linter.unusedVariables false
set_option linter.unusedSectionVars false
set_option maxRecDepth 100000
namespace Go.Mx.Tryz

theorem rst_mem {l c : List Int} {x : Int} (h : x ∈ rst l c) : x ∈ c := (List.mem_filter.1 h).1
theorem frm_len {n : Int} {zs : List I} (h : frm n zs = true) : 0 ≤ n := by
 unfold frm at h
 simp only [Bool.and_eq_true, decide_eq_true_eq] at h
 omega

set_option maxHeartbeats 4000000 in
theorem assume_r {z y : I} {zs : List I} {l : List Int} {n : Int} (hz : IsSl z (ones zs)) (hc : Cls zs) (hy : IsSl y (celI l)) (hl : l.length ≤ 30) (h60 : zs.length ≤ 60) (h30 : ∀ y, y ∈ zs → (dI y).length ≤ 30) (HH : Hp) : ∃ v, Gives G 19 [.m (.ag [.i .i64 n, z]), .m y] HH v HH ∧ AsmQ n l zs v := by
 have key : ∃ v H', Gives G 19 [.m (.ag [.i .i64 n, z]), .m y] HH v H' ∧ (H' = HH ∧ AsmQ n l zs v) := by
  refine gives_of_ret ?_
  refine ret_pur rfl rfl rfl rfl rfl ?_
  generalize hQ : (fun (v : V) (H' : Hp) => H' = HH ∧ AsmQ n l zs v) = Q
  have hr := hz.rules
  simp only [ones_len] at hr
  have gR := fun H => right_r hz hc (by omega) n H
  cases hf : frm n zs with
  | false =>
   have k : Q (errV 2) HH := by rw [← hQ]; exact ⟨rfl, by unfold AsmQ; rw [hf]; rfl⟩
   rw [hf] at gR
   simp (maxSteps := 2000000) (disch := omega) [gd_in, gd_and, wr_i64, gcall_cx, slCells hz, slOn hz, cl (gR _)]
   exact k
  | true =>
   rw [hf] at gR
   obtain ⟨hn65, hlz⟩ := frm_lits hf
   have hn0 := frm_len hf
   have gL := fun H => literals_r hz hy (by omega) hn0 hn65 H
   cases hll : lits n l with
   | false =>
    have k : Q (errV 2) HH := by rw [← hQ]; exact ⟨rfl, by unfold AsmQ; rw [hf, hll]; rfl⟩
    rw [hll] at gL
    simp (maxSteps := 2000000) (disch := omega) [gd_in, gd_and, wr_i64, gcall_cx, slCells hz, slOn hz, cl (gR _), cl (gL _)]
    exact k
   | true =>
   rw [hll] at gL
   have gO := fun H => opposed_r hy (by omega) (lits_sm hn65 hll) H
   cases hop : opp l with
   | true =>
    have k : Q (errV 2) HH := by rw [← hQ]; exact ⟨rfl, by unfold AsmQ; rw [hf, hll, hop]; rfl⟩
    rw [hop] at gO
    simp (maxSteps := 2000000) (disch := omega) [gd_in, gd_and, wr_i64, gcall_cx, slCells hz, slOn hz, cl (gR _), cl (gL _), cl (gO _)]
    exact k
   | false =>
   rw [hop] at gO
   have qk : ∀ v, FrmQ n (asm l (zs.map dI)) v → Q v HH := fun v h => by
    rw [← hQ]
    refine ⟨rfl, ?_⟩
    unfold AsmQ
    rw [hf, hll, hop]
    exact h
   clear hQ
   simp (maxSteps := 2000000) (disch := omega) [gd_in, gd_and, wr_i64, gcall_cx, slCells hz, slOn hz, cl (gR _), cl (gL _), cl (gO _), hr]
   refine (?key : ∀ (i : Nat) (oc : V) (ws : List I) (B : List (Nat × List V)) (H : Hp), i ≤ zs.length → getB B 2 = some [.m (.i .i64 n), .m z] → getB B 6 = some [.m (.i .i64 n), oc] → getB B 4 = some [.m (.i .i64 0), .m (.nl 4)] → LR 35 ws oc H (0 ≤ ·) → (∀ w, w ∈ ws → IsSl w (celI (dI w)) ∧ (dI w).length ≤ 30) → ws.map dI = asm l ((zs.take i).map dI) → Run G c19_B0 (S19_0 (.m y) (.fa 2 0) (.fa 4 0) (.fa 6 0) (.m (.i .i64 i)) B H) _) 0 (.m (.nl 4)) [] _ [] (Nat.zero_le _) rfl rfl rfl LR.nil (fun w hw => by simp at hw) rfl
   refine indM (fun i : Nat => zs.length - i) fun i ih oc ws B H hi hB2 hB6 hB4 ho hws hwm => ?_
   unfold c19_B0
   obtain ⟨o1, o2, o3, o4⟩ := ho.nf
   have hwl : ws.length ≤ i := by
    have := congrArg List.length hwm
    rw [List.length_map] at this
    rw [this]
    have := asm_len l ((zs.take i).map dI)
    simp only [List.length_map, List.length_take] at this
    omega
   cases hx : zs[i]? with
   | none =>
    have : i = zs.length := by have := List.getElem?_eq_none_iff.1 hx; omega
    subst this
    rw [List.take_length] at hwm
    have hres := qk (.tu [.m (.ag [.i .i64 n, zL ws]), .m (.i .i64 0)]) ⟨zL ws, _, rfl, zL_sl ws, fun w hw => by
     obtain ⟨k1, k2⟩ := hws w hw
     exact ⟨k1, by omega⟩, hwm⟩
    have v1 := ho.view 17
    rcases ho with ⟨rfl, rfl⟩ | ⟨hne, r, hr9, rfl, h3⟩
    ·simp (maxSteps := 2000000) (disch := omega) [gd_in, gd_and, wr_i64, hr, hB2, hB6, hB4, v1]
     exact hres
    ·simp (maxSteps := 2000000) (disch := omega) [gd_in, gd_and, wr_i64, hr, hB2, hB6, hB4, v1]
     exact hres
   | some w =>
    have hlt := (List.getElem?_eq_some_iff.1 hx).1
    have hlt' : (i : Int) < zs.length := by omega
    have hn := ones_nth hx
    have wi : wr .i64 ((i : Int) + 1) = ((i + 1 : Nat) : Int) := wr_i64 (by omega) (by omega)
    have hwm' := List.mem_of_getElem? hx
    have hw := (hc w hwm').1
    have hwl' := h30 w hwm'
    have hws' := lits_sm hn65 (hlz w hwm')
    obtain ⟨v, H1, gv, hH1, hk1, hv⟩ := rest_r (l := l) (ol := .m y) (HH := H) hw (by omega) hws' rfl (fun H' _ x => has_r hy (by omega) x H')
    have ho1 : LR 35 ws oc H1 (· < H.length) := (ho.keep (H' := H) (ok' := (· < H.length)) (fun _ _ => rfl) (fun r _ h => h)).keep (fun r hr => hk1 r hr) (fun r hr _ => hr)
    have ih := fun oc ws B H => ih (i + 1) (by omega) oc ws B H (by omega)
    rw [take_succ_get hx, List.map_append, List.map_cons, List.map_nil, asm_snoc] at ih
    rcases hv with ⟨h1, rfl⟩ | ⟨h1, o9, rfl, ho9⟩
    ·rw [if_pos h1] at ih
     simp (maxSteps := 2000000) (disch := omega) [gd_in, gd_and, wr_i64, hr, hB2, hlt, hlt', hn, cl gv, wi, -Int.natCast_add]
     exact ih _ _ _ _ hB2 hB6 hB4 (ho1.keep (fun _ _ => rfl) (fun _ _ _ => Nat.zero_le _)) hws hwm
    ·rw [if_neg (by rw [h1]; simp)] at ih
     obtain ⟨w1, w2, w3⟩ := ho9.nf
     obtain ⟨zz, H3, b1, b2, b3, b4, b5⟩ := ho9.toLW.bsf
     rw [on1_iI] at b2
     have hk3 : LR 35 ws oc H3 (0 ≤ ·) := ho1.keep (fun r hr => b5 r hr) (fun _ _ _ => Nat.zero_le _)
     obtain ⟨o2', H2, c1, c2, c3, c4, c5, c6⟩ := hk3.push (b := 24) (ys := [zz]) (Nat.zero_le _) (by omega) (by simp; omega) (fun u hu => by rw [List.mem_singleton] at hu; subst hu; exact b3)
     have c1' : ∀ B, loudX (fun _ _ _ => none) ⟨B, H3⟩ (.app 35 1 24) [oc, .ls [[zz]]] = some (o2', ⟨B, H2⟩) := fun B => (loud_elems rfl).trans (c1 B)
     obtain ⟨d1, d2, d3, d4⟩ := c3.nf
     have hdl := rst_len l (dI w)
     have fin : (ws ++ [zz]).map dI = asm l ((zs.take i).map dI) ++ [rst l (dI w)] := by
      rw [List.map_append, hwm, List.map_cons, List.map_nil, dI_sl b2]
     have hws2 : ∀ u, u ∈ ws ++ [zz] → IsSl u (celI (dI u)) ∧ (dI u).length ≤ 30 := fun u hu => by
      rcases List.mem_append.1 hu with h | h
      ·exact hws u h
      ·rw [List.mem_singleton] at h
       subst h
       rw [dI_sl b2]
       exact ⟨b2, by omega⟩
     generalize rst l (dI w) = q at *
     simp (maxSteps := 2000000) (disch := omega) [gd_in, gd_and, wr_i64, hr, hB2, hB6, hlt, hlt', hn, cl gv, b1, -loud_app, c1', setC_v o1, setC_v c2, setC_v w1, d2, d3, wi, -Int.natCast_add]
     refine ih _ _ _ _ ?_ ?_ ?_ c3 hws2 fin <;> simp [hB2, hB4, hB6]
 obtain ⟨v, H', h1, rfl, h2⟩ := key
 exact ⟨v, h1, h2⟩
end Go.Mx.Tryz
