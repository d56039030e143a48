/- Units, the program's text: its state. -/
import Derived.Test.YtcdcepfigjohfaaGreatDoorZh
set_option linter.unusedSimpArgs false
set_option linter.unusedVariables false
set_option linter.unusedSectionVars false
set_option maxRecDepth 100000
namespace Go.Mx.Tryz

theorem sto_int : STO (fun a b : Int => decide (a < b)) := ⟨fun x => by simp, fun x y z h1 h2 => by
 simp only [decide_eq_true_eq] at *
 omega, fun x y => by
 simp only [decide_eq_true_eq]
 omega⟩
def nd (c : List Int) : List Int := cmpct (srtI c)
theorem mem_nd {c : List Int} {x : Int} : x ∈ nd c ↔ x ∈ c := by
 unfold nd
 rw [mem_cmpct, (srtI_perm c).mem_iff]
theorem nd_nodup (c : List Int) : (nd c).Nodup := by
 have h := cmpct_inc sto_int (l := srtI c) ((srtI_pw c).imp fun h => by simp only [decide_eq_false_iff_not]; omega)
 exact h.imp fun h => by
  simp only [decide_eq_true_eq] at h
  omega
theorem nd_len (c : List Int) : (nd c).length ≤ c.length := by
 have := cmpct_len (srtI c)
 have := (srtI_perm c).length_eq
 unfold nd
 omega
theorem LF.sortI {c : List Int} {o : V} {H : Hp} {ok : Nat → Prop} (h : LF 3 (iI c) o H ok) {F : Nat} (hp : G.prim F = some sriX) (hl : c.length ≤ 1000000) : ∃ H1, Gives G F [o] H (.tu []) H1 ∧ LF 3 (iI (srtI c)) o H1 ok ∧ H1.length = H.length ∧ ∀ r, ¬ ok r → nth H1 r = nth H r := by
 have hlen := (srtI_perm c).length_eq
 rcases h with ⟨e, ho⟩ | ⟨r, base, hr, rfl, h3, h4, hne⟩
 ·have e' : c = [] := by simpa [iI] using e
  subst e'
  exact ⟨H, sortI_nil hp ho H, .inl ⟨rfl, ho⟩, rfl, fun _ _ => rfl⟩
 ·have hs := sortI_gives (G := G) (r := r) (st := 0) (len := (onV (iI c)).length) (lim := false) hp h3 (by simp) (by simp; omega) (xs := c) (by rw [onV_rows, List.drop_zero]; exact List.take_of_length_le (by simp [rowsI_len]))
  have e : srtH H r 3 1 (onV (iI c)) 0 (rowsI (srtI c)) = H.set r (.cs 3 1 (onV (iI (srtI c))) c.length false) := by
   have hc2 : cpyEl (onV (iI c)) 0 (rowsI (srtI c)) = rowsI (srtI c) := by
    unfold cpyEl
    rw [List.take_zero, List.nil_append, List.drop_eq_nil_of_le (by simp [rowsI_len]; omega), List.append_nil]
   rw [onV_rows (srtI c)]
   cases hq : srtI c with
   | nil =>
    rw [hq] at hlen
    have : c = [] := List.eq_nil_of_length_eq_zero hlen.symm
    rw [this] at hne
    exact absurd rfl hne
   | cons y t =>
    rw [hq] at hc2
    show H.set r (.cs 3 1 (cpyEl (onV (iI c)) 0 (rowsI (y :: t))) (onV (iI c)).length false) = _
    rw [hc2, onV_len, iI_len]
  rw [e, onV_len] at hs
  refine ⟨_, hs, .inr ⟨r, c.length, hr, by simp [hlen], nl_set_eq (nl_lt h3), by simp [hlen], fun e => ?_⟩, by simp, fun q hq => nl_set_ne fun e => hq (e ▸ hr)⟩
  have e' : srtI c = [] := by simpa [iI] using e
  rw [e'] at hlen
  have : c = [] := List.eq_nil_of_length_eq_zero hlen.symm
  rw [this] at hne
  exact absurd rfl hne
theorem prep_s {z : I} {c : List Int} (hz : IsSl z (celI c)) (hc : c.length ≤ 100000) (H : Hp) : ∃ o0 H0 H1 o H2, Gives G 32 [.m z] H o0 H0 ∧ Gives G 49 [o0] H0 (.tu []) H1 ∧ Gives G 35 [o0] H1 o H2 ∧
  noFaV o0 = true ∧ LW 3 (iI (nd c)) o H2 (H.length ≤ ·) ∧ H.length ≤ H2.length ∧ ∀ r, r < H.length → nth H2 r = nth H r := by
 obtain ⟨o0, H0, g0, a1, a2, a3⟩ := clone_i hz (by omega) H
 obtain ⟨H1, g1, b3, b4, b5⟩ := a1.sortI (F := 49) rfl (by omega)
 obtain ⟨o, H2, g2, d1, d2, d3⟩ := compact_s b3 (by have := (srtI_perm c).length_eq; omega)
 refine ⟨o0, H0, H1, o, H2, g0, g1, g2, a1.toLW.nf.1, d1, by omega, fun r hr => ?_⟩
 rw [d3 r (by omega), b5 r (by omega), a3 r hr]
def LX (xs : List I) (o : V) (H : Hp) : Prop := (xs = [] ∧ (o = .m (.nl 4) ∨ o = .ls [])) ∨
 ∃ (r ty : Nat) (es : List I) (base : Nat) (lim : Bool), o = .sl r es.length 1 0 xs.length lim ∧ nth H r = some (.cs ty 1 (onV es) base true) ∧ base ≤ es.length ∧ es.take xs.length = xs
theorem LX.rd {xs : List I} {o : V} {H : Hp} (h : LX xs o H) {i : Nat} {x : I} (hx : xs[i]? = some x) : ∃ p, pureX (.ixa 1) [o, .m (.i .i64 (i : Int))] = some p ∧ noFaV p = true ∧ ∀ B, readX ⟨B, H⟩ (.ld false 1) [p] = some (.m x) := by
 have hlt := (List.getElem?_eq_some_iff.1 hx).1
 rcases h with ⟨rfl, _⟩ | ⟨r, ty, es, base, lim, rfl, h3, h4, h6⟩
 ·simp at hlt
 ·have hge := take_get h6 hx
  refine ⟨.pt r es.length i 0, ?_, rfl, fun B => ?_⟩
  ·simp (maxSteps := 2000000) (disch := omega) [gd_in, gd_and, wr_i64, hlt, show (i : Int) < xs.length from by omega]
  ·have e : readX ⟨B, H⟩ (.ld false 1) [V.pt r es.length i 0] = (readA ⟨B, H⟩ 1 (V.pt r es.length i 0)).bind fun cs => valOf false cs := rfl
   simp (maxSteps := 2000000) (disch := omega) [gd_in, gd_and, wr_i64, onV_nth hge, h3, h4]
theorem LX.keepR {xs : List I} {o : V} {H H' : Hp} (h : LX xs o H) (hk : ∀ r, rowOf o = some r → (∃ ty es base, nth H r = some (.cs ty 1 es base true)) → nth H' r = nth H r) : LX xs o H' := by
 rcases h with h | ⟨r, ty, es, base, lim, rfl, h3, h4⟩
 ·exact .inl h
 ·exact .inr ⟨r, ty, es, base, lim, rfl, by rw [hk r rfl ⟨_, _, _, h3⟩]; exact h3, h4⟩
theorem LW.bsfX {ty n0 : Nat} {xs : List I} {o : V} {H : Hp} (h : LW ty xs o H (n0 ≤ ·)) : ∃ z H2, (∀ B, loudX (fun _ _ _ => none) ⟨B, H⟩ (.bsf 1 [.m (.nl 4)] 1 [0]) [o] = some (.ls [[z]], ⟨B, H2⟩)) ∧ IsSl z (on1 xs) ∧ oneV (.m z) = true ∧ H2.length = H.length ∧ (∀ r, r < n0 → nth H2 r = nth H r) ∧ LX xs o H2 := by
 obtain ⟨z, hv, hz, hz1⟩ := h.view 18
 rcases h with ⟨rfl, rfl | rfl⟩ | ⟨r, es, base, lim, hr, rfl, h3, h4, h5, h6⟩
 ·cases hv
  exact ⟨_, H, fun B => rfl, hz, rfl, rfl, fun _ _ => rfl, .inl ⟨rfl, .inl rfl⟩⟩
 ·cases hv
  exact ⟨_, H, fun B => rfl, hz, rfl, rfl, fun _ _ => rfl, .inl ⟨rfl, .inr rfl⟩⟩
 ·refine ⟨z, H.set r (.cs ty 1 (onV es) base true), fun B => ?_, hz, hz1, by simp, fun q hq => nl_set_ne fun e => ?_, .inr ⟨r, ty, es, base, lim, rfl, nl_set_eq (nl_lt h3), h4, h6⟩⟩
  ·have e : loudX (fun _ _ _ => none) ⟨B, H⟩ (.bsf 1 [.m (.nl 4)] 1 [0]) [.sl r es.length 1 0 xs.length lim] = ((optMap (fun e => optMap (Mx.view 20 H) e) [[V.sl r es.length 1 0 xs.length lim]]).bind fun l => (freeze [r] H).bind fun H' => some (.ls l, ⟨B, H'⟩)) := rfl
   rw [e, freezeV h3]
   simp only [optMap, hv, Option.bind_some]
  ·subst e
   have : n0 ≤ r := hr
   omega
theorem LR.row {ty : Nat} {xs : List I} {o : V} {H : Hp} {ok : Nat → Prop} (h : LR ty xs o H ok) {r : Nat} (e : rowOf o = some r) : nth H r = some (.cs ty 1 (onV xs) 0 false) := by
 rcases h with ⟨_, rfl⟩ | ⟨hne, q, hr, rfl, h3⟩
 ·cases e
 ·cases e
  exact h3

def idxs (D : List (List Int)) (x : Int) : Nat → List Int
 | 0 => []
 | k + 1 => idxs D x k ++ if x ∈ (D[k]?).getD [] then [(k : Int)] else []
theorem mem_idxs {D : List (List Int)} {x : Int} {i : Nat} {c : List Int} (hc : D[i]? = some c) (hx : x ∈ c) : ∀ {k : Nat}, i < k → (i : Int) ∈ idxs D x k
 | k + 1, h => by
  unfold idxs
  by_cases e : i = k
  ·subst e
   rw [hc]
   simp [hx]
  ·exact List.mem_append_left _ (mem_idxs hc hx (by omega))
theorem idxs_get {D : List (List Int)} {x : Int} : ∀ {k : Nat}, k ≤ D.length → ∀ {j : Int}, j ∈ idxs D x k → ∃ i c, j = (i : Nat) ∧ D[i]? = some c ∧ x ∈ c
 | 0, _, j, h => by simp [idxs] at h
 | k + 1, hk, j, h => by
  unfold idxs at h
  rcases List.mem_append.1 h with h | h
  ·exact idxs_get (by omega) h
  ·obtain ⟨c, hc⟩ : ∃ c, D[k]? = some c := ⟨D[k], List.getElem?_eq_getElem (by omega)⟩
   rw [hc] at h
   by_cases hx : x ∈ c
   ·simp [hx] at h
    exact ⟨k, c, h, hc, hx⟩
   ·simp [hx] at h
theorem idxs_len {D : List (List Int)} {x : Int} : ∀ k : Nat, (idxs D x k).length ≤ k
 | 0 => Nat.le_refl _
 | k + 1 => by
  unfold idxs
  have := idxs_len (D := D) (x := x) k
  rw [List.length_append]
  split <;> simp <;> omega

def evS : Option (Nat × Nat) → V
 | none => .m (.nl 4)
 | some (r, n) => .sl r n 1 0 n false
theorem evS_nf (v : Option (Nat × Nat)) : noFaV (evS v) = true := by cases v <;> rfl
def vS (mm : List (Int × Option (Nat × Nat))) (x : Int) : V := evS ((mfind mm x).getD none)
@[simp] theorem mIS_get (mm : List (Int × Option (Nat × Nat))) (x : Int) : lkpRow ⟨false, [1]⟩ [.m (.nl 4)] false false (mpR ekI evS mm) (.i .i64 x) = some (vS mm x) := lkpRow_enc (z0 := none) hkI rfl mm x
theorem mIS_up (mm : List (Int × Option (Nat × Nat))) (x : Int) (v : Option (Nat × Nat)) : mupR ⟨false, [1]⟩ (mpR ekI evS mm) (.i .i64 x) (evS v) = some (mpR ekI evS (mset mm x v)) := mupR_enc hkI evS_nf mm x v
theorem vS_set (mm : List (Int × Option (Nat × Nat))) (x y : Int) (v : Option (Nat × Nat)) : vS (mset mm x v) y = if x = y then evS v else vS mm y := by
 unfold vS
 rw [mfind_mset]
 by_cases e : x = y
 ·rw [if_pos e, if_pos e]
  rfl
 ·rw [if_neg e, if_neg e]
theorem LR.evS {ty : Nat} {xs : List I} {o : V} {H : Hp} {ok : Nat → Prop} (h : LR ty xs o H ok) : ∃ v, o = evS v := by
 rcases h with ⟨_, rfl⟩ | ⟨hne, q, hr, rfl, h3⟩
 ·exact ⟨none, rfl⟩
 ·exact ⟨some (q, xs.length), rfl⟩
structure InS (H : Hp) (oq : V) (mm : List (Int × Option (Nat × Nat))) (ix : Int → List Int) : Prop where
 row : nth H 0 = some (mpR ekI evS mm)
 lst : ∀ x, LR 3 (iI (ix x)) (vS mm x) H Any1
 dq : ∀ x r, rowOf (vS mm x) = some r → rowOf oq ≠ some r
 dd : ∀ x y, x ≠ y → ∀ r, rowOf (vS mm x) = some r → rowOf (vS mm y) ≠ some r
structure PS (H : Hp) (oc oq : V) (a : List Int) (cs : List I) (mm : List (Int × Option (Nat × Nat))) (ix : Int → List Int) : Prop where
 q : QS H 2 0 1 oc oq a
 c : LR 35 cs oc H Any1
 i : InS H oq mm ix
section
variable {H H' : Hp} {oc oq : V} {a : List Int} {cs : List I} {mm : List (Int × Option (Nat × Nat))} {ix : Int → List Int}
theorem PS.rowP (h : PS H oc oq a cs mm ix) : ∃ b, b ≤ 1 ∧ nth H 2 = some (.cs 66 4 [[oc, .mp 0, .mp 1, oq]] b false) := h.q.row
theorem PS.keep (h : PS H oc oq a cs mm ix) (hk : ∀ r, r < H.length → nth H' r = nth H r) : PS H' oc oq a cs mm ix := by
 obtain ⟨⟨⟨b, hb, hrow⟩, ⟨m, hm, hml⟩, hq, hown, hlt, hn⟩, hc, ⟨i1, i2, i3, i4⟩⟩ := h
 exact ⟨⟨⟨b, hb, (hk _ (nl_lt hrow)).trans hrow⟩, ⟨m, (hk _ (nl_lt hm)).trans hm, hml⟩, hq.keepR fun r _ hr => hk r hr, hown, hlt, hn⟩, hc.keepR fun r _ hr => hk r hr, ⟨(hk _ (nl_lt i1)).trans i1, fun x => (i2 x).keepR fun r _ hr => hk r hr, i3, i4⟩⟩
theorem PS.set {oq' : V} {x : Int} (h : PS H oc oq a cs mm ix) (h1 : QS H' 2 0 1 oc oq' (a ++ [x])) (h2 : Keep H H' 2 1 oq) (h3 : New H oq oq') : PS H' oc oq' (a ++ [x]) cs mm ix := by
 obtain ⟨⟨⟨b, hb, hrow⟩, ⟨m, hm, hml⟩, hq, hown, hlt, hn⟩, hc, ⟨i1, i2, i3, i4⟩⟩ := h
 obtain ⟨k1, k2⟩ := h2
 have ne2 : ∀ {ty : Nat} {es : List (List V)} {r : Nat}, nth H r = some (.cs ty 1 es 0 false) → r ≠ 2 ∧ r ≠ 1 := fun hr => by
  constructor
  ·intro e
   subst e
   rw [hrow] at hr
   cases hr
  ·intro e
   subst e
   rw [hm] at hr
   cases hr
 refine ⟨h1, hc.keepR fun r hr hl => k2 r hl (ne2 (hc.row hr)).1 (ne2 (hc.row hr)).2 fun e => ?_, ⟨?_, fun x => (i2 x).keepR fun r hr hl => k2 r hl (ne2 ((i2 x).row hr)).1 (ne2 ((i2 x).row hr)).2 (i3 x r hr), fun x r hr e => ?_, i4⟩⟩
 ·have := (hc.row hr).symm.trans (hq.row e)
  cases this
 ·rw [k2 0 (nl_lt i1) (by omega) (by omega) fun e => by have := hown 0 e; omega]
  exact i1
 ·rcases h3 r e with h4 | h4
  ·exact i3 x r hr h4
  ·have := nl_lt ((i2 x).row hr)
   omega
theorem PS.clause (h : PS H oc oq a cs mm ix) {z : I} (hz : oneV (.m z) = true) (hl : cs.length ≤ 1000000) : ∃ oc' H3, (∀ B, loudX (fun _ _ _ => none) ⟨B, H⟩ (.app 35 1 24) [oc, .ls [[z]]] = some (oc', ⟨B, H3⟩)) ∧ noFaV oc' = true ∧ cellsV oc' = some [oc'] ∧ oneV oc' = true ∧ (∃ b, b ≤ 1 ∧ nth H3 2 = some (.cs 66 4 [[oc, .mp 0, .mp 1, oq]] b false)) ∧ PS (H3.set 2 (.cs 66 4 [[oc', .mp 0, .mp 1, oq]] 1 false)) oc' oq a (cs ++ [z]) mm ix ∧ 2 < H3.length ∧
  (∀ r, (∃ ty es base, nth H r = some (.cs ty 1 es base true)) → nth (H3.set 2 (.cs 66 4 [[oc', .mp 0, .mp 1, oq]] 1 false)) r = nth H r) := by
 obtain ⟨⟨⟨b, hb, hrow⟩, ⟨m, hm, hml⟩, hq, hown, hlt, hn⟩, hc, ⟨i1, i2, i3, i4⟩⟩ := h
 obtain ⟨oc', H3, c1, c2, c3, c4, c5, c6⟩ := hc.push1 (b := 24) (by omega) (y := z) (by omega) hz
 obtain ⟨d1, d2, d3, d4⟩ := c3.nf
 have hc0 : ∀ r, rowOf oc = some r → nth H r = some (.cs 35 1 (onV cs) 0 false) := fun r hr => hc.row hr
 have n2 : rowOf oc ≠ some 2 := fun e => by
  have := (hc0 2 e).symm.trans hrow
  cases this
 have n1 : rowOf oc ≠ some 1 := fun e => by
  have := (hc0 1 e).symm.trans hm
  cases this
 have n0 : rowOf oc ≠ some 0 := fun e => by
  have := (hc0 0 e).symm.trans i1
  cases this
 have nI : ∀ {es : List (List V)} {r : Nat}, nth H r = some (.cs 3 1 es 0 false) → rowOf oc ≠ some r ∧ r ≠ 2 := fun {es r} hr => by
  constructor
  ·intro e
   have := (hc0 r e).symm.trans hr
   cases this
  ·intro e
   subst e
   rw [hrow] at hr
   cases hr
 have hrow3 : nth H3 2 = some (.cs 66 4 [[oc, .mp 0, .mp 1, oq]] b false) := (c5 2 (nl_lt hrow) n2).trans hrow
 have hl3 := nl_lt hrow3
 have kI : ∀ {es : List (List V)} {r : Nat}, nth H r = some (.cs 3 1 es 0 false) → nth (H3.set 2 (.cs 66 4 [[oc', .mp 0, .mp 1, oq]] 1 false)) r = nth H r := fun hr => by
  rw [nl_set_ne (Ne.symm (nI hr).2), c5 _ (nl_lt hr) (nI hr).1]
 refine ⟨oc', H3, c1, c2, d2, d3, ⟨b, hb, hrow3⟩, ⟨⟨⟨1, Nat.le_refl _, nl_set_eq hl3⟩, ⟨m, ?_, hml⟩, hq.keepR fun r hr _ => kI (hq.row hr), hown, hlt, c2, d2, d3⟩, c3.keepR fun r hr hlr => nl_set_ne fun e => ?_, ⟨?_, fun x => (i2 x).keepR fun r hr _ => kI ((i2 x).row hr), i3, i4⟩⟩, hl3, fun r hr => ?_⟩
 ·rw [nl_set_ne (by omega), c5 1 (nl_lt hm) n1]
  exact hm
 ·subst e
  have := (c3.row hr).symm.trans hrow3
  cases this
 ·rw [nl_set_ne (by omega), c5 0 (nl_lt i1) n0]
  exact i1
 ·obtain ⟨ty, es, base, hr⟩ := hr
  rw [nl_set_ne fun e => ?_, c5 r (nl_lt hr) fun e => ?_]
  ·have := (hc0 r e).symm.trans hr
   cases this
  ·subst e
   rw [hrow] at hr
   cases hr
theorem PS.index (h : PS H oc oq a cs mm ix) (x i : Int) (hl : (ix x).length ≤ 1000000) : ∃ o' H3 mm', (∀ B, loudX (fun _ _ _ => none) ⟨B, H⟩ (.app 3 1 8) [vS mm x, .ls [[.i .i64 i]]] = some (o', ⟨B, H3⟩)) ∧ noFaV o' = true ∧ nth H3 0 = some (mpR ekI evS mm) ∧ mupR ⟨false, [1]⟩ (mpR ekI evS mm) (.i .i64 x) o' = some (mpR ekI evS mm') ∧ setEl H3 0 (mpR ekI evS mm') = some (H3.set 0 (mpR ekI evS mm')) ∧
  PS (H3.set 0 (mpR ekI evS mm')) oc oq a cs mm' (fun y => if x = y then ix x ++ [i] else ix y) ∧ (∀ r, (∃ ty es base, nth H r = some (.cs ty 1 es base true)) → nth (H3.set 0 (mpR ekI evS mm')) r = nth H r) := by
 obtain ⟨⟨⟨b, hb, hrow⟩, ⟨m, hm, hml⟩, hq, hown, hlt, hn⟩, hc, ⟨i1, i2, i3, i4⟩⟩ := h
 obtain ⟨o', H3, c1, c2, c3, c4, c5, c6⟩ := (i2 x).push1 (b := 8) (by omega) (y := .i .i64 i) (by simp; omega) rfl
 obtain ⟨v, rfl⟩ := c3.evS
 have hv0 : ∀ r, rowOf (vS mm x) = some r → nth H r = some (.cs 3 1 (onV (iI (ix x))) 0 false) := fun r hr => (i2 x).row hr
 have n0 : rowOf (vS mm x) ≠ some 0 := fun e => by
  have := (hv0 0 e).symm.trans i1
  cases this
 have n1 : rowOf (vS mm x) ≠ some 1 := fun e => by
  have := (hv0 1 e).symm.trans hm
  cases this
 have n2 : rowOf (vS mm x) ≠ some 2 := fun e => by
  have := (hv0 2 e).symm.trans hrow
  cases this
 have h30 : nth H3 0 = some (mpR ekI evS mm) := (c5 0 (nl_lt i1) n0).trans i1
 have hl3 := nl_lt h30
 have k0 : ∀ {ty k base : Nat} {es : List (List V)} {fz : Bool} {r : Nat}, nth H r = some (.cs ty k es base fz) → r ≠ 0 := fun hr e => by
  subst e
  rw [i1] at hr
  cases hr
 have kk : ∀ {r : Nat}, r < H.length → r ≠ 0 → rowOf (vS mm x) ≠ some r → nth (H3.set 0 (mpR ekI evS (mset mm x v))) r = nth H r := fun {r} h1 h2 h3 => by
  rw [nl_set_ne (Ne.symm h2), c5 r h1 h3]
 refine ⟨evS v, H3, mset mm x v, c1, c2, h30, mIS_up mm x v, setEl_put _ _ _ hl3, ⟨⟨⟨b, hb, (kk (nl_lt hrow) (by omega) n2).trans hrow⟩, ⟨m, (kk (nl_lt hm) (by omega) n1).trans hm, hml⟩, hq.keepR fun r hr hlr => kk hlr (k0 (hq.row hr)) fun e => i3 x r e hr, hown, hlt, hn⟩, hc.keepR fun r hr hlr => kk hlr (k0 (hc.row hr)) fun e => ?_, ⟨nl_set_eq hl3, fun y => ?_, fun y r hr => ?_, fun y w hyw r hr => ?_⟩⟩, fun r hr => ?_⟩
 ·have := (hv0 r e).symm.trans (hc.row hr)
  cases this
 ·rw [vS_set]
  by_cases e : x = y
  ·rw [if_pos e, if_pos e, show iI (ix x ++ [i]) = iI (ix x) ++ [.i .i64 i] from (iI_app (ix x) [i]).symm]
   refine c3.keepR fun r hr hlr => nl_set_ne fun e2 => ?_
   subst e2
   have := (c3.row hr).symm.trans h30
   cases this
  ·rw [if_neg e, if_neg e]
   exact (i2 y).keepR fun r hr hlr => kk hlr (k0 ((i2 y).row hr)) (i4 y x (Ne.symm e) r hr)
 ·rw [vS_set] at hr
  by_cases e : x = y
  ·rw [if_pos e] at hr
   rcases c6 r hr with h | ⟨h, _⟩
   ·exact i3 x r h
   ·intro e2
    have := hq.row_lt e2
    omega
  ·rw [if_neg e] at hr
   exact i3 y r hr
 ·rw [vS_set] at hr ⊢
  by_cases e : x = y
  ·rw [if_pos e] at hr
   subst e
   rw [if_neg hyw]
   rcases c6 r hr with h | ⟨h, _⟩
   ·exact i4 x w hyw r h
   ·intro e2
    have := (i2 w).row_lt e2
    omega
  ·rw [if_neg e] at hr
   by_cases e2 : x = w
   ·rw [if_pos e2]
    subst e2
    intro e3
    rcases c6 r e3 with h | ⟨h, _⟩
    ·exact i4 y x hyw r hr h
    ·have := (i2 y).row_lt hr
     omega
   ·rw [if_neg e2]
    exact i4 y w hyw r hr
 ·obtain ⟨ty, es, base, hr⟩ := hr
  refine kk (nl_lt hr) (k0 hr) fun e => ?_
  have := (hv0 r e).symm.trans hr
  cases this
end

theorem cloneF {a : List Int} {o : V} {H : Hp} (h : LR 3 (iI a) o H Any1) {k : Nat} (hk : k ≤ a.length) (hl : a.length ≤ 1000000) : ∃ p, pureX (.slc 1 true false false) [o, .m (.i .i64 (k : Int))] = some p ∧ noFaV p = true ∧ ∃ o1 H1, Gives G 32 [p] H o1 H1 ∧ LF 3 (iI (a.drop k)) o1 H1 Any1 := by
 rcases h with ⟨e, rfl⟩ | ⟨hne, r, hr, rfl, h3⟩
 ·have e' : a = [] := by simpa [iI] using e
  subst e'
  have : k = 0 := by simpa using hk
  subst this
  obtain ⟨o1, H1, g, h1, _⟩ := clone_i (z := .nl 4) (c := []) (.inr ⟨rfl, rfl⟩) (by simp) H
  rcases h1 with h1 | ⟨r, b, _, h1⟩
  ·exact ⟨.m (.nl 4), rfl, rfl, o1, H1, g, .inl h1⟩
  ·exact ⟨.m (.nl 4), rfl, rfl, o1, H1, g, .inr ⟨r, b, trivial, h1⟩⟩
 ·rw [onV_rows] at h3
  simp only [iI_len]
  refine ⟨.sl r a.length 1 (0 + k) (a.length - k) (false || (false && Nat.beq a.length a.length)), ?_, rfl, ?_⟩
  ·simp (maxSteps := 2000000) (disch := omega) [gd_in, gd_and, wr_i64, show (k : Int) ≤ a.length from by omega, hk]
  ·obtain ⟨o1, H1, g, h1, _⟩ := clone_row (st := 0 + k) (len := a.length - k) (ver := a.length) (lim := false || (false && Nat.beq a.length a.length)) h3 (Nat.zero_le _) hl
   have h1 := h1 [] (fun i h => by cases h)
   rw [Nat.zero_add, List.take_of_length_le (by simp)] at h1
   refine ⟨o1, H1, g, ?_⟩
   rcases h1 with ⟨e, rfl⟩ | ⟨hne2, q, _, rfl, h4⟩
   ·exact .inl ⟨by rw [e]; rfl, .inr rfl⟩
   ·exact .inr ⟨q, 0, trivial, by simp, by rw [onV_rows]; exact h4, Nat.zero_le _, fun e => hne2 (by simpa [iI] using e)⟩
theorem sortF_s {c : List Int} {o : V} {H : Hp} {ok : Nat → Prop} (h : LF 3 (iI c) o H ok) (hs : Sm c) (hc : c.length ≤ 1000000) : ∃ q H1, Gives G 33 [o, .m (.fn 34 [])] H (.tu []) H1 ∧ q.Perm c ∧ q.Pairwise (fun a b => litLt b a = false) ∧ LF 3 (iI q) o H1 ok := by
 obtain ⟨ys, H1, g1, b1, b2, b3, b4, b5⟩ := h.sort (F := 33) rfl (g := .m (.fn 34 [])) rfl rfl (by simp; omega) (noAg_iI c) (c := fun x y => cfL (dN x) (dN y)) (fun x hx y hy => by
  obtain ⟨a, ha, rfl⟩ := List.mem_map.1 hx
  obtain ⟨b, hb, rfl⟩ := List.mem_map.1 hy
  exact order_s a b (hs a ha) (hs b hb) []) ⟨fun x _ => by rw [cfL_lt]; exact sto_lit.irr _, fun x _ y _ z _ => by rw [cfL_lt, cfL_lt, cfL_lt]; exact sto_lit.tr _ _ _, fun x hx y hy z hz => by
  rw [cfL_lt, cfL_lt, cfL_lt]
  intro h1 h2
  cases h3 : litLt (dN x) (dN z) with
  | false => rfl
  | true =>
   rcases sto_lit.tot (dN x) (dN y) with k | k | k
   ·rw [h1] at k; cases k
   ·rw [← k, h3] at h2; cases h2
   ·have := sto_lit.tr _ _ _ k h3
    rw [h2] at this; cases this⟩
 rw [iI_dN b1] at b3
 refine ⟨ys.map dN, H1, g1, ?_, ?_, b3⟩
 ·have := b1.map dN
  rwa [dN_iI] at this
 ·rw [List.pairwise_map]
  exact b2.imp fun h => by rw [← cfL_lt]; exact h
structure PR (D : List (List Int)) (l a0 a : List Int) : Prop where
 st : UState D l a
 pre : ∃ us, a = a0 ++ us ∧ ∀ x, x ∈ us → ¬ x ∈ l
 nod : a.Nodup
 len : a.length + mu D a ≤ 2000
theorem PR.push {D : List (List Int)} {l a0 a c : List Int} {x : Int} (h : PR D l a0 a) (hc : c ∈ D) (hs : sat a c = false) (h0 : x ≠ 0) (hr : ∀ y, y ∈ rst a c ↔ y = x) : PR D l a0 (a ++ [x]) ∧ mu D (a ++ [x]) + 1 ≤ mu D a := by
 have hx := mem_rst.1 ((hr x).2 rfl)
 have hxa : ¬ x ∈ a := fun e => by
  rw [sat_of hx.1 e] at hs
  cases hs
 have hm := mu_lt hc hx.1 hxa
 obtain ⟨us, e, hu⟩ := h.pre
 have hlen := h.len
 refine ⟨⟨h.st.step hc h0 hr, ⟨us ++ [x], by rw [e, List.append_assoc], fun y hy => ?_⟩, ?_, by simp; omega⟩, hm⟩
 ·rcases List.mem_append.1 hy with h1 | h1
  ·exact hu y h1
  ·rw [List.mem_singleton] at h1
   subst h1
   exact fun h2 => hxa (h.st.base _ h2)
 ·rw [List.nodup_append]
  exact ⟨h.nod, by simp, fun y hy z hz e2 => by
   rw [List.mem_singleton] at hz
   subst e2
   subst hz
   exact hxa hy⟩
def Pd (a : List Int) (k : Nat) (c : List Int) : Prop := ∃ j x, k ≤ j ∧ a[j]? = some x ∧ -x ∈ c
theorem Pd.push {a c : List Int} {k : Nat} (h : Pd a k c) (x : Int) : Pd (a ++ [x]) k c := by
 obtain ⟨j, y, h1, h2, h3⟩ := h
 exact ⟨j, y, h1, by rw [List.getElem?_append_left (List.getElem?_eq_some_iff.1 h2).1]; exact h2, h3⟩
theorem Pd.last {a c : List Int} {k : Nat} {x : Int} (hk : k ≤ a.length) (h : -x ∈ c) : Pd (a ++ [x]) k c := ⟨a.length, x, hk, by simp, h⟩
theorem ok_pd {a c : List Int} {k : Nat} (hk : k ≤ a.length) (x : Int) (h : Okc a c ∨ Pd a k c) : Okc (a ++ [x]) c ∨ Pd (a ++ [x]) k c := by
 rcases h with h | h
 ·rcases h.push x with h | h
  ·exact .inl h
  ·exact .inr (.last hk h)
 ·exact .inr (h.push x)
theorem rst_nd {a c : List Int} {x : Int} : x ∈ rst a (nd c) ↔ x ∈ rst a c := by rw [mem_rst, mem_rst, mem_nd]
theorem sat_nd {a c : List Int} : sat a (nd c) = sat a c := by
 rw [Bool.eq_iff_iff, sat_iff, sat_iff]
 simp only [mem_nd]
theorem okc_nd {a c : List Int} (h : Okc a (nd c)) : Okc a c := by
 rcases h with h | ⟨x, y, h1, h2, h3⟩
 ·exact .inl (by rw [← sat_nd]; exact h)
 ·exact .inr ⟨x, y, h1, rst_nd.1 h2, rst_nd.1 h3⟩
theorem nil_nd {a c : List Int} (h : rst a (nd c) = []) : rst a c = [] := List.eq_nil_iff_forall_not_mem.2 fun x hx => by
 have := rst_nd.2 hx
 rw [h] at this
 cases this
theorem okc_set {a c : List Int} {x : Int} (hr : ∀ y, y ∈ rst a c ↔ y = x) : Okc (a ++ [x]) c := .inl (sat_iff.2 ⟨x, (mem_rst.1 ((hr x).2 rfl)).1, by simp⟩)
theorem PR.ans {D : List (List Int)} {l a0 us q : List Int} (h : PR D l a0 (a0 ++ us)) (hp : ∀ x, x ∈ us → ¬ x ∈ l) (h0 : ∀ x, x ∈ a0 → x ∈ l) (ho : opp l = false) (hk : ∀ c, c ∈ D → Okc (a0 ++ us) c) (hq : q.Perm us) (hw : q.Pairwise fun a b => litLt b a = false) : UnQ D l q := by
 obtain ⟨h1, h2⟩ := h.st.closed ho hk
 have hn : us.Nodup := (List.nodup_append.1 h.nod).2.1
 refine ⟨h2, ?_, fun x => ?_⟩
 ·have hqn : q.Nodup := hq.nodup_iff.2 hn
  refine (hw.and hqn).imp fun {a b} ⟨e1, e2⟩ => ?_
  rcases sto_lit.tot a b with k | k | k
  ·exact k
  ·exact absurd k e2
  ·rw [e1] at k; cases k
 ·rw [hq.mem_iff, h1]
  constructor
  ·exact fun hx => ⟨List.mem_append_right _ hx, hp x hx⟩
  ·exact fun hx => (List.mem_append.1 hx.1).resolve_left fun h => hx.2 (h0 x h)
end Go.Mx.Tryz
