/- Units, the program's text: the walk. -/
import Derived.Test.YtcdcepfigjohfaaGreatDoorZi
set_option linter.unusedSimpArgs false
set_option linter.unusedVariables false
set_option linter.unusedSectionVars false
set_option maxRecDepth 100000
namespace Go.Mx.Tryz

def UniS (n : Int) (zs : List I) (l : List Int) (v : V) (H : Hp) : Prop := if (frm n zs && lits n l) = true then (Conf (zs.map dI) l ∧ v = .tu [.m (.nl 4), .m (.b false), .m (.i .i64 0)]) ∨ ∃ q o, UnQ (zs.map dI) l q ∧ v = .tu [o, .m (.b true), .m (.i .i64 0)] ∧ LW 3 (iI q) o H Any1 else v = .tu [.m (.nl 4), .m (.b false), .m (.i .i64 2)]
structure A0 (l a : List Int) : Prop where
 mem : ∀ x, x ∈ a ↔ x ∈ l
 con : opp a = false
 nod : a.Nodup
theorem A0.snoc {l : List Int} {i : Nat} {a : List Int} {x : Int} (hx : l[i]? = some x) (h : A0 (l.take i) a) (h0 : x ≠ 0) (h1 : ¬ -x ∈ a) : A0 (l.take (i + 1)) (if x ∈ a then a else a ++ [x]) := by
 rw [take_succ_get hx]
 by_cases e : x ∈ a
 ·rw [if_pos e]
  refine ⟨fun y => ?_, h.con, h.nod⟩
  rw [List.mem_append, List.mem_singleton, h.mem]
  constructor
  ·exact .inl
  ·rintro (h | rfl)
   ·exact h
   ·exact (h.mem y).1 e
 ·rw [if_neg e]
  refine ⟨fun y => by rw [List.mem_append, List.mem_append, h.mem], (opp_push h0 h1).trans h.con, ?_⟩
  rw [List.nodup_append]
  exact ⟨h.nod, by simp, fun y hy z hz e2 => by
   rw [List.mem_singleton] at hz
   subst e2
   subst hz
   exact e hy⟩

theorem A0.opp {l a : List Int} (h : A0 l a) : opp l = false := by
 cases h1 : Mx.Tryz.opp l with
 | false => rfl
 | true =>
  obtain ⟨x, h2, h3⟩ := opp_iff.1 h1
  have := opp_iff.2 ⟨x, (h.mem x).2 h2, (h.mem _).2 h3⟩
  rw [h.con] at this
  cases this
def CsOk (cs : List I) (D : List (List Int)) : Prop := cs.length = D.length ∧ ∀ (j : Nat) (c : List Int), D[j]? = some c → ∃ w, cs[j]? = some w ∧ IsSl w (celI (nd c))
theorem CsOk.snoc {cs : List I} {D : List (List Int)} {c : List Int} {w : I} (h : CsOk cs D) (hw : IsSl w (celI (nd c))) : CsOk (cs ++ [w]) (D ++ [c]) := by
 refine ⟨by simp [h.1], fun j d hj => ?_⟩
 by_cases e : j < D.length
 ·rw [List.getElem?_append_left e] at hj
  rw [List.getElem?_append_left (by rw [h.1]; exact e)]
  exact h.2 j d hj
 ·rw [List.getElem?_append_right (by omega)] at hj
  rw [List.getElem?_append_right (by rw [h.1]; omega), h.1]
  cases hk : j - D.length with
  | zero =>
   rw [hk] at hj
   simp at hj
   subst hj
   exact ⟨w, by simp, hw⟩
  | succ k =>
   rw [hk] at hj
   simp at hj
theorem ld1_p {H : Hp} {oc oq : V} {b : Nat} (h : nth H 2 = some (.cs 66 4 [[oc, .mp 0, .mp 1, oq]] b false)) (hb : b ≤ 1) (B : List (Nat × List V)) : readX ⟨B, H⟩ .ld1 [.pt 2 1 0 1] = some (.mp 0) := by
 show (nth H 2).bind _ = _
 rw [h]
 show gd (Nat.ble b 1 && Nat.blt 1 4) (some (V.mp 0)) = _
 rw [ble_dec, decide_eq_true hb]
 rfl
def heap0 : Hp := [.mp [] false, .mp [] false, .cs 66 4 [[.m (.nl 4), .mp 0, .mp 1, .m (.nl 4)]] 1 false]
theorem qs0 : QS heap0 2 0 1 (.m (.nl 4)) (.m (.nl 4)) [] := ⟨⟨1, Nat.le_refl _, rfl⟩, ⟨[], rfl, fun x => by simp [mfind]⟩, .inl ⟨rfl, rfl⟩, fun r hr => (by cases hr), by omega, rfl, rfl, rfl⟩
theorem ps0 {H : Hp} {oq : V} {a : List Int} {D : List (List Int)} (h : QS H 2 0 1 (.m (.nl 4)) oq a) (h0 : nth H 0 = some (.mp [] false)) : PS H (.m (.nl 4)) oq a [] [] (fun x => idxs D x 0) :=
 ⟨h, .inl ⟨rfl, rfl⟩, ⟨h0, fun x => .inl ⟨rfl, rfl⟩, fun x r hr => (by cases hr), fun x y _ r hr => (by cases hr)⟩⟩
theorem ix_step {D : List (List Int)} {c : List Int} {i j : Nat} {x : Int} (hx : (nd c)[j]? = some x) : (fun y => if x = y then (idxs D x i ++ if x ∈ (nd c).take j then [(i : Int)] else []) ++ [(i : Int)] else idxs D y i ++ if y ∈ (nd c).take j then [(i : Int)] else []) = fun y => idxs D y i ++ if y ∈ (nd c).take (j + 1) then [(i : Int)] else [] := by
 funext y
 have hn := nd_nodup c
 have hxn : ¬ x ∈ (nd c).take j := fun h => by
  have h1 : (nd c).take (j + 1) = (nd c).take j ++ [x] := take_succ_get hx
  have h2 : ((nd c).take (j + 1)).Nodup := hn.sublist (List.take_sublist _ _)
  rw [h1, List.nodup_append] at h2
  exact h2.2.2 x h x (by simp) rfl
 rw [take_succ_get hx]
 by_cases e : x = y
 ·subst e
  simp [hxn]
 ·have : ¬ y = x := fun h => e h.symm
  simp [e, this]
theorem ix_end {D : List (List Int)} {c : List Int} {i : Nat} (hc : D[i]? = some c) : (fun y => idxs D y i ++ if y ∈ (nd c).take (nd c).length then [(i : Int)] else []) = fun y => idxs D y (i + 1) := by
 funext y
 rw [List.take_length]
 show _ = idxs D y i ++ if y ∈ (D[i]?).getD [] then [(i : Int)] else []
 rw [hc]
 simp only [mem_nd, Option.getD_some]

set_option maxHeartbeats 16000000 in
theorem units_s {z y : I} {zs : List I} {l : List Int} {n : Int} (hz : IsSl z (ones zs)) (hc : Cls zs) (hy : IsSl y (celI l)) (hl : l.length ≤ 30) (h60 : zs.length ≤ 60) (h30 : ∀ y, y ∈ zs → (dI y).length ≤ 30) : ∃ v H, Gives G 20 [.m (.ag [.i .i64 n, z]), .m y] [] v H ∧ UniS n zs l v H := by
 refine gives_of_ret ?_
 refine ret_sh mono rfl rfl rfl rfl rfl ?_
 have hr := hz.rules
 simp only [ones_len] at hr
 have hry := hy.rules
 simp only [celI_len] at hry
 have gR := fun H => right_s hz hc (by omega) n H
 cases hf : frm n zs with
 | false =>
  have k : ∀ H, UniS n zs l (.tu [.m (.nl 4), .m (.b false), .m (.i .i64 2)]) H := fun H => by unfold UniS; rw [hf]; rfl
  rw [hf] at gR
  simp (maxSteps := 2000000) (disch := omega) [gd_in, gd_and, wr_i64, gcall_cx, slCells hz, slOn hz, cl (gR _)]
  exact k _
 | true =>
  rw [hf] at gR
  obtain ⟨hn65, hlz⟩ := frm_lits hf
  have hn0 := frm_len hf
  have gL := fun H => proper_s hy (by omega) n hn0 hn65 H
  cases hll : lits n l with
  | false =>
   have k : ∀ H, UniS n zs l (.tu [.m (.nl 4), .m (.b false), .m (.i .i64 2)]) H := fun H => by unfold UniS; rw [hf, hll]; rfl
   rw [hll] at gL
   simp (maxSteps := 2000000) (disch := omega) [gd_in, gd_and, wr_i64, gcall_cx, slCells hz, slOn hz, cl (gR _), cl (gL _)]
   exact k _
  | true =>
  rw [hll] at gL
  generalize hQ : UniS n zs l = Q
  have qC : Conf (zs.map dI) l → ∀ H, Q (.tu [.m (.nl 4), .m (.b false), .m (.i .i64 0)]) H := fun h H => by
   rw [← hQ]
   unfold UniS
   rw [hf, hll]
   exact .inl ⟨h, rfl⟩
  have qA : ∀ q o H, UnQ (zs.map dI) l q → LW 3 (iI q) o H Any1 → Q (.tu [o, .m (.b true), .m (.i .i64 0)]) H := fun q o H h1 h2 => by
   rw [← hQ]
   unfold UniS
   rw [hf, hll]
   exact .inr ⟨q, o, h1, rfl, h2⟩
  clear hQ
  generalize hC : zs.map dI = C at *
  have hsm : ∀ c, c ∈ C → Sm c ∧ (∀ x, x ∈ c → x ≠ 0) ∧ c.length ≤ 30 := fun c hc' => by
   rw [← hC] at hc'
   obtain ⟨u, hu, rfl⟩ := List.mem_map.1 hc'
   exact ⟨lits_sm hn65 (hlz u hu), lits_0 (hlz u hu), h30 u hu⟩
  have hCl : C.length = zs.length := by rw [← hC, List.length_map]
  have hmu : mu C l ≤ 1800 := by
   have h1 := flat_len (C := C) fun c hc' => (hsm c hc').2.2
   have h2 : mu C l ≤ C.flatten.length := List.length_filter_le _ _
   omega
  have sml := lits_sm hn65 hll
  have l0 := lits_0 hll
  have w9 : writeR 4 [[V.m (.nl 4), .m (.nl 1), .m (.nl 1), .m (.nl 4)]] 0 0 [.m (.nl 4), .mp 0, .mp 1, .m (.nl 4)] = some [[V.m (.nl 4), .mp 0, .mp 1, .m (.nl 4)]] := rfl
  have am : allM [V.mp 0, .mp 1, .m (.nl 4)] = none := rfl
  have cag : cellsV (V.ag [.m (.nl 4), .mp 0, .mp 1, .m (.nl 4)]) = some [.m (.nl 4), .mp 0, .mp 1, .m (.nl 4)] := rfl
  have all9 : [V.m (.nl 4), .mp 0, .mp 1, .m (.nl 4)].all oneV = true := rfl
  simp (maxSteps := 2000000) (disch := omega) [gd_in, gd_and, wr_i64, gcall_cx, slCells hz, slOn hz, cl (gR _), cl (gL _), hry, am, cag, all9, w9]
  clear am cag all9 w9
  refine (?key0 : ∀ (i : Nat) (a : List Int) (oq : V) (B : List (Nat × List V)) (H : Hp), i ≤ l.length → getB B 2 = some [.m (.i .i64 n), .m z] → QS H 2 0 1 (.m (.nl 4)) oq a → nth H 0 = some (.mp [] false) → A0 (l.take i) a → a.length ≤ i →
   Run G c20_B0 (S20_0 (.fa 2 0) (.pt 2 1 0 0) (.m y) (.m (.i .i64 (l.length : Int))) (.m (.i .i64 (i : Int))) B H) _) 0 [] (.m (.nl 4)) _ heap0 (Nat.zero_le _) rfl qs0 rfl ⟨fun x => by simp, rfl, List.nodup_nil⟩ (Nat.le_refl _)
  refine indM (fun i : Nat => l.length - i) fun i ih a oq B H hi hB hS h00 hA hal => ?_
  unfold c20_B0
  cases hx : l[i]? with
  | some x =>
   have hlt := (List.getElem?_eq_some_iff.1 hx).1
   have hlt' : (i : Int) < l.length := by omega
   have hn := celI_nth hx
   have hxm := List.mem_of_getElem? hx
   have wi : wr .i64 ((i : Int) + 1) = ((i + 1 : Nat) : Int) := wr_i64 (by omega) (by omega)
   obtain ⟨v, H', g, hv⟩ := set_s hS (sml x hxm) (by omega)
   have hsn := fun h => hA.snoc hx (l0 x hxm) h
   rcases hv with ⟨h1, rfl, rfl⟩ | ⟨h1, h2, rfl, rfl⟩ | ⟨h1, h2, rfl, oq', k1, k2, k3⟩
   ·have k := qC (.inl (opp_iff.2 ⟨x, hxm, List.mem_of_mem_take ((hA.mem _).1 h1)⟩)) H'
    simp (maxSteps := 2000000) (disch := omega) [gd_in, gd_and, wr_i64, hry, hlt, hlt', hn, cl g]
    exact k
   ·have k := fun B hB => ih (i + 1) (by omega) a oq B H' (by omega) hB hS h00 (by have := hsn h1; rwa [if_pos h2] at this) (by omega)
    simp (maxSteps := 2000000) (disch := omega) [gd_in, gd_and, wr_i64, hry, hlt, hlt', hn, cl g, wi, -Int.natCast_add]
    exact k _ hB
   ·have h00' : nth H' 0 = some (.mp [] false) := by
     rw [k2.2 0 (nl_lt h00) (by omega) (by omega) fun e => by have := hS.own 0 e; omega]
     exact h00
    have k := fun B hB => ih (i + 1) (by omega) (a ++ [x]) oq' B H' (by omega) hB k1 h00' (by have := hsn h1; rwa [if_neg h2] at this) (by simp; omega)
    simp (maxSteps := 2000000) (disch := omega) [gd_in, gd_and, wr_i64, hry, hlt, hlt', hn, cl g, wi, -Int.natCast_add]
    exact k _ hB
  | none =>
  have : i = l.length := by have := List.getElem?_eq_none_iff.1 hx; omega
  subst this
  rw [List.take_length] at hA
  have hol := hA.opp
  have hPS := ps0 (D := C) hS h00
  obtain ⟨b, hb, hrow⟩ := hPS.rowP
  obtain ⟨q1, q2, q3, q4⟩ := hS.que.nf
  simp only [iI_len] at q4
  simp (maxSteps := 2000000) (disch := omega) [gd_in, gd_and, wr_i64, hry, hB, hrow, hb, rd_p3, q4, setC_v q1, hr]
  clear ih hi hx hb hrow b
  refine (?key2 : ∀ (i : Nat) (oc : V) (cs : List I) (mm : List (Int × Option (Nat × Nat))) (B : List (Nat × List V)) (H : Hp), i ≤ zs.length → getB B 2 = some [.m (.i .i64 n), .m z] → PS H oc oq a cs mm (fun x => idxs C x i) → CsOk cs (C.take i) →
   Run G c20_B2 (S20_2 (.pt 2 1 0 0) (.m (.i .i64 (a.length : Int))) (.m z) (.m (.i .i64 (zs.length : Int))) (.m (.i .i64 (i : Int))) B H) _) 0 _ _ _ _ _ (Nat.zero_le _) hB hPS ⟨rfl, fun j c h => by simp at h⟩
  clear hB hPS hS h00 H B
  refine indM (fun i : Nat => zs.length - i) fun i ih oc cs mm B H hi hB hS hcs => ?_
  unfold c20_B2
  cases hx : zs[i]? with
  | some w =>
   have hlti := (List.getElem?_eq_some_iff.1 hx).1
   have hlti' : (i : Int) < zs.length := by omega
   have hn := ones_nth hx
   have wi : wr .i64 ((i : Int) + 1) = ((i + 1 : Nat) : Int) := wr_i64 (by omega) (by omega)
   have hwm' := List.mem_of_getElem? hx
   have hw := (hc w hwm').1
   have hwl' := h30 w hwm'
   have hCi : C[i]? = some (dI w) := by rw [← hC, List.getElem?_map, hx]; rfl
   obtain ⟨o0, H0, H1, o, H2, g0, g1, g2, b1, b2, b3, b4⟩ := prep_s hw (by omega) H
   obtain ⟨zz, H3, f1, f2, f3, f4, f5, f6⟩ := b2.bsfX
   rw [on1_iI] at f2
   have hS2 := hS.keep b4
   have hS3 := hS.keep (H' := H3) fun r hr => (f5 r hr).trans (b4 r hr)
   obtain ⟨b, hb, hrow2⟩ := hS2.rowP
   obtain ⟨oc', H4, c1, c2, c3, c4, ⟨b', hb', c5⟩, c6, c7, c8⟩ := hS3.clause f3 (by have := hcs.1; rw [List.length_take] at this; omega)
   have e4 := setEl_put H4 2 (.cs 66 4 [[oc', .mp 0, .mp 1, oq]] 1 false) c7
   have f7 := f6.keepR (H' := H4.set 2 (.cs 66 4 [[oc', .mp 0, .mp 1, oq]] 1 false)) fun r _ h => c8 r h
   obtain ⟨n1, n2, n3, n4⟩ := b2.nf
   obtain ⟨m1, m2, m3, m4⟩ := hS.c.nf
   simp only [iI_len] at n4
   simp (maxSteps := 2000000) (disch := omega) [gd_in, gd_and, wr_i64, hr, hlti, hlti', hn, cl g0, cl g1, cl g2, hrow2, hb, rd_p0, f1, -loud_app, c1, c3, c4, c5, hb', wr_p0, e4, n4, setC_v b1, setC_v n1, setC_v m1, setC_v c2]
   generalize H4.set 2 (.cs 66 4 [[oc', .mp 0, .mp 1, oq]] 1 false) = H5 at *
   have hndl := nd_len (dI w)
   have wsm := (hsm _ (List.mem_of_getElem? hCi)).1
   have hcs2 : CsOk (cs ++ [zz]) (C.take (i + 1)) := by
    rw [take_succ_get hCi]
    exact hcs.snoc f2
   refine (?key1 : ∀ (j : Nat) (mm : List (Int × Option (Nat × Nat))) (B : List (Nat × List V)) (H : Hp), j ≤ (nd (dI w)).length → getB B 2 = some [.m (.i .i64 n), .m z] → PS H oc' oq a (cs ++ [zz]) mm (fun y => idxs C y i ++ if y ∈ (nd (dI w)).take j then [(i : Int)] else []) → LX (iI (nd (dI w))) o H →
    Run G c20_B1 (S20_1 (.pt 2 1 0 0) (.m (.i .i64 (a.length : Int))) (.m (.i .i64 (i : Int))) (.m z) (.m (.i .i64 (zs.length : Int))) (.m (.i .i64 (i : Int))) o (.m (.i .i64 ((nd (dI w)).length : Int))) (.m (.i .i64 (j : Int))) B H) _) 0 mm _ _ (Nat.zero_le _) hB (by simpa using c6) f7
   clear c1 c3 c4 c5 c6 c7 c8 e4 f7 f6 hS3 hS2 hrow2 hB hS g0 g1 g2 b2 b3 b4 f1 f4 f5 m1 m2 m3 m4 n2 n3 n4
   refine indM (fun j : Nat => (nd (dI w)).length - j) fun j ihj mm B H hj hB hS hX => ?_
   unfold c20_B1
   cases hv : (nd (dI w))[j]? with
   | none =>
    have : j = (nd (dI w)).length := by have := List.getElem?_eq_none_iff.1 hv; omega
    subst this
    rw [ix_end hCi] at hS
    have k := fun B hB => ih (i + 1) (by omega) oc' (cs ++ [zz]) mm B H (by omega) hB hS hcs2
    simp (maxSteps := 2000000) (disch := omega) [gd_in, gd_and, wr_i64, setC_v n1, wi, -Int.natCast_add]
    exact k _ hB
   | some x =>
    have hltj := (List.getElem?_eq_some_iff.1 hv).1
    have hltj' : (j : Int) < (nd (dI w)).length := by omega
    have wj : wr .i64 ((j : Int) + 1) = ((j + 1 : Nat) : Int) := wr_i64 (by omega) (by omega)
    obtain ⟨p, e1, e2, e3⟩ := hX.rd (iI_get hv)
    obtain ⟨b, hb, hrow⟩ := hS.rowP
    have hin := hS.i.row
    obtain ⟨o', H3, mm', k1, k2, k3, k4, k5, k6, k7⟩ := hS.index x (i : Int) (by
     have := idxs_len (D := C) (x := x) i
     rw [List.length_append]
     split <;> simp <;> omega)
    rw [ix_step hv] at k6
    have hX2 := hX.keepR (H' := H3.set 0 (mpR ekI evS mm')) fun r _ h => k7 r h
    have hvn : noFaV (vS mm x) = true := evS_nf _
    have k := fun B hB => ihj (j + 1) (by omega) mm' B _ (by omega) hB k6 hX2
    simp (maxSteps := 2000000) (disch := omega) [gd_in, gd_and, wr_i64, hltj, hltj', e1, e3, hrow, hb, rd_p1, hin, ld1_p hrow hb, -loud_app, k1, k3, k4, k5, setC_v n1, setC_v e2, setC_v hvn, setC_v k2, wj, -Int.natCast_add]
    exact k _ hB
  | none =>
  have : i = zs.length := by have := List.getElem?_eq_none_iff.1 hx; omega
  subst this
  have hCt : C.take zs.length = C := List.take_of_length_le (by omega)
  rw [hCt] at hcs
  clear ih hx hi hCt
  obtain ⟨b, hb, hrow⟩ := hS.rowP
  obtain ⟨c1, c2, c3, c4⟩ := hS.c.nf
  rw [hcs.1, hCl] at c4
  have hmuA : ∀ a, mu C a ≤ 1800 := fun a => by
   have h1 := flat_len (C := C) fun c hc' => (hsm c hc').2.2
   have h2 : mu C a ≤ C.flatten.length := List.length_filter_le _ _
   omega
  have hPR : PR C l a a := ⟨⟨fun x hx => .base ((hA.mem x).1 hx), fun x hx => (hA.mem x).2 hx, hA.con.trans hol.symm⟩, ⟨[], by simp, fun x hx => by cases hx⟩, hA.nod, by have := hmuA a; omega⟩
  have hnd : ∀ (i : Nat) (c : List Int), C[i]? = some c → Sm (nd c) ∧ (nd c).Nodup ∧ (nd c).length ≤ 100000 ∧ c ∈ C ∧ (∀ x, x ∈ c → x ≠ 0) := fun i c h => by
   have h1 := List.mem_of_getElem? h
   obtain ⟨h2, h3, h4⟩ := hsm c h1
   have := nd_len c
   exact ⟨fun x hx => h2 x (mem_nd.1 hx), nd_nodup c, by omega, h1, h3⟩
  have smA : ∀ {a' : List Int}, PR C l a a' → Sm a' := fun h x hx => by
   rcases (h.st.sub x hx).from with h | ⟨c, h1, h2⟩
   ·exact sml x h
   ·exact (hsm c h1).1 x h2
  have hcv := c1
  simp (maxSteps := 2000000) (disch := omega) [gd_in, gd_and, wr_i64, hrow, hb, rd_p0, c4, setC_v c1]
  clear hrow hb b
  refine (?key3 : ∀ (i : Nat) (a' : List Int) (oq : V) (B : List (Nat × List V)) (H : Hp), i ≤ zs.length → PS H oc oq a' cs mm (fun x => idxs C x zs.length) → PR C l a a' → (∀ (j : Nat) (c : List Int), j < i → C[j]? = some c → Okc a' c ∨ Pd a' 0 c) →
   Run G c20_B3 (S20_3 (.pt 2 1 0 0) (.m (.i .i64 (a.length : Int))) oc (.m (.i .i64 (zs.length : Int))) (.m (.i .i64 (i : Int))) B H) _) 0 a oq _ _ (Nat.zero_le _) hS hPR (fun j c h => by omega)
  clear hS hB H B oq q1 q2 q3 q4
  refine indM (fun i : Nat => zs.length - i) fun i ih a' oq B H hi hS hP hok => ?_
  unfold c20_B3
  cases hx : C[i]? with
  | some c =>
   have hlti : i < zs.length := by rw [← hCl]; exact (List.getElem?_eq_some_iff.1 hx).1
   have hlti' : (i : Int) < zs.length := by omega
   have wi : wr .i64 ((i : Int) + 1) = ((i + 1 : Nat) : Int) := wr_i64 (by omega) (by omega)
   obtain ⟨w, hw1, hw2⟩ := hcs.2 i c hx
   obtain ⟨n1, n2, n3, n4, n5⟩ := hnd i c hx
   obtain ⟨p, e1, e2, e3⟩ := hS.c.rd hw1
   have hlen := hP.len
   obtain ⟨v, H', g, hv⟩ := look_s hS.q hw2 n3 n1 n2 (by omega)
   have upd : ∀ a2, (∀ c, (Okc a' c ∨ Pd a' 0 c) → Okc a2 c ∨ Pd a2 0 c) → Okc a2 c → ∀ (j : Nat) (d : List Int), j < i + 1 → C[j]? = some d → Okc a2 d ∨ Pd a2 0 d := fun a2 h1 h2 j d hj hd => by
    by_cases e : j < i
    ·exact h1 d (hok j d e hd)
    ·have : j = i := by omega
     subst this
     rw [hx] at hd
     cases hd
     exact .inl h2
   rcases hv with ⟨h1, rfl, rfl⟩ | ⟨h1, rfl, rfl⟩ | ⟨h1, rfl, x, h2, oq', k1, k2, k3⟩
   ·have k := fun B => ih (i + 1) (by omega) a' oq B H' (by omega) hS hP (upd a' (fun _ h => h) (okc_nd h1))
    simp (maxSteps := 2000000) (disch := omega) [gd_in, gd_and, wr_i64, hlti, hlti', e1, e3, cl g, setC_v hcv, setC_v e2, wi, -Int.natCast_add]
    exact k _
   ·have k := qC (hP.st.stuck n4 (nil_nd h1)) H'
    simp (maxSteps := 2000000) (disch := omega) [gd_in, gd_and, wr_i64, hlti, hlti', e1, e3, cl g, setC_v hcv, setC_v e2]
    exact k
   ·rw [sat_nd] at h1
    simp only [rst_nd] at h2
    obtain ⟨p1, p2⟩ := hP.push n4 h1 (n5 x (mem_rst.1 ((h2 x).2 rfl)).1) h2
    have k := fun B => ih (i + 1) (by omega) (a' ++ [x]) oq' B H' (by omega) (hS.set k1 k2 k3) p1 (upd _ (fun _ h => ok_pd (Nat.zero_le _) x h) (okc_set h2))
    simp (maxSteps := 2000000) (disch := omega) [gd_in, gd_and, wr_i64, hlti, hlti', e1, e3, cl g, setC_v hcv, setC_v e2, wi, -Int.natCast_add]
    exact k _
  | none =>
  have : i = zs.length := by have := List.getElem?_eq_none_iff.1 hx; omega
  subst this
  have hok2 : ∀ c, c ∈ C → Okc a' c ∨ Pd a' 0 c := fun c hc' => by
   obtain ⟨j, hj, he⟩ := List.getElem_of_mem hc'
   exact hok j c (by omega) (by rw [List.getElem?_eq_getElem hj, he])
  clear ih hx hi hok
  simp (maxSteps := 2000000) (disch := omega) [gd_in, gd_and, wr_i64, setC_v hcv]
  refine (?key5 : ∀ (p : Nat × List Int) (oq : V) (B : List (Nat × List V)) (H : Hp), p.1 ≤ p.2.length → PS H oc oq p.2 cs mm (fun x => idxs C x zs.length) → PR C l a p.2 → (∀ c, c ∈ C → Okc p.2 c ∨ Pd p.2 p.1 c) →
   Run G c20_B5 (S20_5 (.pt 2 1 0 0) (.m (.i .i64 (a.length : Int))) (.m (.i .i64 (p.1 : Int))) B H) _) (0, a') oq _ _ (Nat.zero_le _) hS hP hok2
  clear hok2 hP hS B H oq a'
  refine indM (fun p : Nat × List Int => 2 * mu C p.2 + (p.2.length - p.1)) fun p ih oq B H hk hS hP hok => ?_
  obtain ⟨k, a'⟩ := p
  simp only at ih hk hS hP hok ⊢
  unfold c20_B5
  obtain ⟨b, hb, hrow⟩ := hS.rowP
  obtain ⟨q1, q2, q3, q4⟩ := hS.q.que.nf
  simp only [iI_len] at q4
  have hlen := hP.len
  cases hx : a'[k]? with
  | some x =>
   have hltk := (List.getElem?_eq_some_iff.1 hx).1
   have hltk' : (k : Int) < a'.length := by omega
   have wk : wr .i64 ((k : Int) + 1) = ((k + 1 : Nat) : Int) := wr_i64 (by omega) (by omega)
   have wx := wr_neg (smA hP x (List.mem_of_getElem? hx))
   obtain ⟨p, e1, e2, e3⟩ := hS.q.que.rd (iI_get hx)
   have hin := hS.i.row
   obtain ⟨r1, r2, r3, r4⟩ := (hS.i.lst (-x)).nf
   simp only [iI_len] at r4
   simp (maxSteps := 2000000) (disch := omega) [gd_in, gd_and, wr_i64, hrow, hb, rd_p1, rd_p3, q4, hltk, hltk', e1, e3, wx, hin, r4, setC_v q1, setC_v e2, setC_v r1]
   have hdone : ∀ c, c ∈ C → Okc a' c ∨ Pd a' (k + 1) c ∨ ∃ (s i : Nat), 0 ≤ s ∧ (idxs C (-x) zs.length)[s]? = some (i : Int) ∧ C[i]? = some c := fun c hc' => by
    rcases hok c hc' with h | ⟨j, u, h1, h2, h3⟩
    ·exact .inl h
    ·by_cases e : j = k
     ·subst e
      rw [hx] at h2
      cases h2
      obtain ⟨i, hi, he⟩ := List.getElem_of_mem hc'
      have hci : C[i]? = some c := by rw [List.getElem?_eq_getElem hi, he]
      obtain ⟨s, hs, he2⟩ := List.getElem_of_mem (mem_idxs hci h3 (k := zs.length) (by omega))
      exact .inr (.inr ⟨s, i, Nat.zero_le _, by rw [List.getElem?_eq_getElem hs, he2], hci⟩)
     ·exact .inr (.inl ⟨j, u, by omega, h2, h3⟩)
   refine (?key4 : ∀ (t : Nat) (a2 : List Int) (oq : V) (B : List (Nat × List V)) (H : Hp), t ≤ (idxs C (-x) zs.length).length → k + 1 ≤ a2.length → PS H oc oq a2 cs mm (fun x => idxs C x zs.length) → PR C l a a2 → mu C a2 + a2.length ≤ mu C a' + a'.length → mu C a2 ≤ mu C a' → (∀ c, c ∈ C → Okc a2 c ∨ Pd a2 (k + 1) c ∨ ∃ (s i : Nat), t ≤ s ∧ (idxs C (-x) zs.length)[s]? = some (i : Int) ∧ C[i]? = some c) →
    Run G c20_B4 (S20_4 (.pt 2 1 0 0) (.m (.i .i64 (a.length : Int))) (.m (.i .i64 (k : Int))) (vS mm (-x)) (.m (.i .i64 ((idxs C (-x) zs.length).length : Int))) (.m (.i .i64 (t : Int))) B H) _) 0 a' oq _ _ (Nat.zero_le _) (by omega) hS hP (Nat.le_refl _) (Nat.le_refl _) hdone
   clear hdone hin hrow hb b q1 q2 q3 q4 e1 e2 e3 p hS B H oq hok hP
   refine indM (fun t : Nat => (idxs C (-x) zs.length).length - t) fun t iht a2 oq B H ht hka hS hP hm1 hm2 hok => ?_
   unfold c20_B4
   have hlen2 := hP.len
   cases hy2 : (idxs C (-x) zs.length)[t]? with
   | none =>
    have : t = (idxs C (-x) zs.length).length := by have := List.getElem?_eq_none_iff.1 hy2; omega
    subst this
    have kk := fun B => ih (k + 1, a2) (by
     show 2 * mu C a2 + (a2.length - (k + 1)) < 2 * mu C a' + (a'.length - k)
     omega) oq B H
    simp only at kk
    have kk := fun B => kk B hka hS hP fun c hc' => by
     rcases hok c hc' with h | h | ⟨s, i, h1, h2, _⟩
     ·exact .inl h
     ·exact .inr h
     ·have := (List.getElem?_eq_some_iff.1 h2).1
      omega
    simp (maxSteps := 2000000) (disch := omega) [gd_in, gd_and, wr_i64, wk, setC_v r1, -Int.natCast_add]
    exact kk _
   | some yi =>
    have hltt := (List.getElem?_eq_some_iff.1 hy2).1
    have hltt' : (t : Int) < (idxs C (-x) zs.length).length := by omega
    have hil := idxs_len (D := C) (x := -x) zs.length
    have wt : wr .i64 ((t : Int) + 1) = ((t + 1 : Nat) : Int) := wr_i64 (by omega) (by omega)
    obtain ⟨i, c, rfl, hci, hxc⟩ := idxs_get (by omega) (List.mem_of_getElem? hy2)
    obtain ⟨f, e1, e2, e3⟩ := (hS.i.lst (-x)).rd (iI_get hy2)
    obtain ⟨w, hw1, hw2⟩ := hcs.2 i c hci
    obtain ⟨n1, n2, n3, n4, n5⟩ := hnd i c hci
    obtain ⟨f2, d1, d2, d3⟩ := hS.c.rd hw1
    obtain ⟨b, hb, hrow⟩ := hS.rowP
    obtain ⟨v, H', g, hv⟩ := look_s hS.q hw2 n3 n1 n2 (by omega)
    have upd : ∀ a3, (∀ c, (Okc a2 c ∨ Pd a2 (k + 1) c) → Okc a3 c ∨ Pd a3 (k + 1) c) → Okc a3 c → ∀ d, d ∈ C → Okc a3 d ∨ Pd a3 (k + 1) d ∨ ∃ (s i : Nat), t + 1 ≤ s ∧ (idxs C (-x) zs.length)[s]? = some (i : Int) ∧ C[i]? = some d := fun a3 h1 h2 d hd => by
     have key : (Okc a2 d ∨ Pd a2 (k + 1) d) → Okc a3 d ∨ Pd a3 (k + 1) d ∨ ∃ (s i : Nat), t + 1 ≤ s ∧ (idxs C (-x) zs.length)[s]? = some (i : Int) ∧ C[i]? = some d := fun h => by
      rcases h1 d h with h | h
      ·exact .inl h
      ·exact .inr (.inl h)
     rcases hok d hd with h | h | ⟨s, j, k1, k2, k3⟩
     ·exact key (.inl h)
     ·exact key (.inr h)
     ·by_cases e : s = t
      ·subst e
       rw [hy2] at k2
       have e2 : i = j := by
        have := Option.some.inj k2
        omega
       subst e2
       rw [hci] at k3
       cases k3
       exact .inl h2
      ·exact .inr (.inr ⟨s, j, by omega, k2, k3⟩)
    rcases hv with ⟨h1, rfl, rfl⟩ | ⟨h1, rfl, rfl⟩ | ⟨h1, rfl, u, h2, oq', k1, k2, k3⟩
    ·have kk := fun B => iht (t + 1) (by omega) a2 oq B H' (by omega) hka hS hP hm1 hm2 (upd a2 (fun _ h => h) (okc_nd h1))
     simp (maxSteps := 2000000) (disch := omega) [gd_in, gd_and, wr_i64, hltt, hltt', e1, e3, hrow, hb, rd_p0, d1, d3, cl g, setC_v r1, setC_v e2, setC_v hcv, setC_v d2, wt, -Int.natCast_add]
     exact kk _
    ·have kk := qC (hP.st.stuck n4 (nil_nd h1)) H'
     simp (maxSteps := 2000000) (disch := omega) [gd_in, gd_and, wr_i64, hltt, hltt', e1, e3, hrow, hb, rd_p0, d1, d3, cl g, setC_v r1, setC_v e2, setC_v hcv, setC_v d2]
     exact kk
    ·rw [sat_nd] at h1
     simp only [rst_nd] at h2
     obtain ⟨p1, p2⟩ := hP.push n4 h1 (n5 u (mem_rst.1 ((h2 u).2 rfl)).1) h2
     have kk := fun B => iht (t + 1) (by omega) (a2 ++ [u]) oq' B H' (by omega) (by simp; omega) (hS.set k1 k2 k3) p1 (by simp; omega) (by omega) (upd _ (fun _ h => ok_pd hka u h) (okc_set h2))
     simp (maxSteps := 2000000) (disch := omega) [gd_in, gd_and, wr_i64, hltt, hltt', e1, e3, hrow, hb, rd_p0, d1, d3, cl g, setC_v r1, setC_v e2, setC_v hcv, setC_v d2, wt, -Int.natCast_add]
     exact kk _
  | none =>
  have hke : k = a'.length := by have := List.getElem?_eq_none_iff.1 hx; omega
  subst hke
  obtain ⟨us, rfl, hus⟩ := hP.pre
  obtain ⟨p, e1, e2, o1, H1, g1, f1⟩ := cloneF hS.q.que (k := a.length) (by simp) (by omega)
  rw [List.drop_left] at f1
  obtain ⟨q, H2, g2, s1, s2, s3⟩ := sortF_s f1 (fun x hx => smA hP x (List.mem_append_right _ hx)) (by rw [List.length_append] at hlen; omega)
  have hans := hP.ans hus (fun x hx => (hA.mem x).1 hx) hol (fun c hc' => (hok c hc').resolve_right fun ⟨j, x, h1, h2, _⟩ => by
   have := (List.getElem?_eq_some_iff.1 h2).1
   omega) s1 s2
  have kq := qA q o1 H2 hans s3.toLW
  obtain ⟨t1, t2, t3, t4⟩ := f1.toLW.nf
  simp (maxSteps := 2000000) (disch := omega) [gd_in, gd_and, wr_i64, hrow, hb, rd_p3, q4, e1, cl g1, cl g2, setC_v q1, setC_v e2, setC_v t1]
  exact ⟨t1, kq⟩
end Go.Mx.Tryz
