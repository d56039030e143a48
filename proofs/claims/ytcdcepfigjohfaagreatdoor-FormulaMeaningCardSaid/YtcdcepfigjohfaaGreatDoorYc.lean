/- Lists of immutable values in rows that are written in place: sorted, cut, frozen. -/
import Derived.Test.YtcdcepfigjohfaaGreatDoorYl
import Derived.Test.YtcdcepfigjohfaaGreatDoorPr
set_option linter.unusedSimpArgs false
set_option linter.unusedVariables false
set_option linter.unusedSectionVars false
set_option maxRecDepth 100000
namespace Go.Mx.Tryz

def LW (ty : Nat) (xs : List I) (o : V) (H : Hp) (ok : Nat → Prop) : Prop := (xs = [] ∧ (o = .m (.nl 4) ∨ o = .ls [])) ∨
 ∃ (r : Nat) (es : List I) (base : Nat) (lim : Bool), ok r ∧ o = .sl r es.length 1 0 xs.length lim ∧ nth H r = some (.cs ty 1 (onV es) base false) ∧ base ≤ es.length ∧ xs.length ≤ es.length ∧ es.take xs.length = xs
theorem LR.toLW {ty : Nat} {xs : List I} {o : V} {H : Hp} {ok : Nat → Prop} (h : LR ty xs o H ok) : LW ty xs o H ok := by
 rcases h with ⟨rfl, rfl⟩ | ⟨hne, r, hr, rfl, h3⟩
 ·exact .inl ⟨rfl, .inl rfl⟩
 ·exact .inr ⟨r, xs, 0, false, hr, rfl, h3, Nat.zero_le _, Nat.le_refl _, List.take_length⟩
theorem LW.keep {ty : Nat} {xs : List I} {o : V} {H H' : Hp} {ok ok' : Nat → Prop} (h : LW ty xs o H ok) (hk : ∀ r, ok r → nth H' r = nth H r) (ho : ∀ r, ok r → r < H.length → ok' r) : LW ty xs o H' ok' := by
 rcases h with h | ⟨r, es, base, lim, hr, e, h3, h4⟩
 ·exact .inl h
 ·exact .inr ⟨r, es, base, lim, ho r hr (nl_lt h3), e, by rw [hk r hr]; exact h3, h4⟩
theorem LW.nf {ty : Nat} {xs : List I} {o : V} {H : Hp} {ok : Nat → Prop} (h : LW ty xs o H ok) : noFaV o = true ∧ cellsV o = some [o] ∧ oneV o = true ∧ pureX (.len false) [o] = some (.m (.i .i64 (xs.length : Nat))) := by
 rcases h with ⟨rfl, rfl | rfl⟩ | ⟨r, es, base, lim, hr, rfl, h3, h4⟩
 ·exact ⟨rfl, rfl, rfl, rfl⟩
 ·exact ⟨rfl, rfl, rfl, rfl⟩
 ·exact ⟨rfl, rfl, rfl, rfl⟩
theorem take_get {xs es : List I} (h : es.take xs.length = xs) {i : Nat} {x : I} (hx : xs[i]? = some x) : es[i]? = some x := by
 have hlt := (List.getElem?_eq_some_iff.1 hx).1
 have e : (es.take xs.length)[i]? = some x := by rw [h]; exact hx
 rwa [List.getElem?_take, if_pos hlt] at e
theorem LW.rd {ty : Nat} {xs : List I} {o : V} {H : Hp} {ok : Nat → Prop} (h : LW ty xs o H ok) {i : Nat} {x : I} (hx : xs[i]? = some x) : ∃ p, pureX (.ixa 1) [o, .m (.i .i64 (i : Int))] = some p ∧ noFaV p = true ∧ ∀ B, readX ⟨B, H⟩ (.ld false 1) [p] = some (.m x) := by
 have hlt := (List.getElem?_eq_some_iff.1 hx).1
 rcases h with ⟨rfl, _⟩ | ⟨r, es, base, lim, hr, rfl, h3, h4, h5, h6⟩
 ·simp at hlt
 ·have hge := take_get h6 hx
  refine ⟨.pt r es.length i 0, ?_, rfl, fun B => ?_⟩
  ·simp (maxSteps := 2000000) (disch := omega) [gd_in, gd_and, wr_i64, hlt, show (i : Int) < xs.length from by omega]
  ·have e : readX ⟨B, H⟩ (.ld false 1) [V.pt r es.length i 0] = (readA ⟨B, H⟩ 1 (V.pt r es.length i 0)).bind fun cs => valOf false cs := rfl
   simp (maxSteps := 2000000) (disch := omega) [gd_in, gd_and, wr_i64, onV_nth hge, h3, h4]
theorem LW.elems {ty : Nat} {xs : List I} {o : V} {H : Hp} {ok : Nat → Prop} (h : LW ty xs o H ok) : Mx.elems H o = some (onV xs) := by
 rcases h with ⟨rfl, rfl | rfl⟩ | ⟨r, es, base, lim, hr, rfl, h3, h4, h5, h6⟩
 ·rfl
 ·rfl
 ·rw [elems_row, h3]
  show gd (Nat.ble base es.length && Nat.beq 1 1) (some (((onV es).drop 0).take xs.length)) = _
  rw [ble_dec, decide_eq_true h4, onV_sub, List.drop_zero, h6]
  rfl
theorem LW.view {ty : Nat} {xs : List I} {o : V} {H : Hp} {ok : Nat → Prop} (h : LW ty xs o H ok) (k : Nat) : ∃ z, Mx.view (k + 2) H o = some z ∧ IsSl z (on1 xs) ∧ oneV (.m z) = true := by
 have he := h.elems
 rcases h with ⟨rfl, rfl | rfl⟩ | ⟨r, es, base, lim, hr, rfl, h3, h4, h5, h6⟩
 ·exact ⟨_, rfl, isSl_nil, rfl⟩
 ·exact ⟨_, rfl, isSl_sl _, rfl⟩
 ·refine ⟨.sl (on1 xs), ?_, isSl_sl _, rfl⟩
  show Option.bind (Mx.elems H (.sl r es.length 1 0 xs.length lim)) _ = _
  rw [he]
  show Option.bind (optMap (fun e => optMap (Mx.view (k + 1) H) e) (onV xs)) _ = _
  rw [optV]
  rfl
theorem LW.bsf {ty n0 : Nat} {xs : List I} {o : V} {H : Hp} (h : LW ty xs o H (n0 ≤ ·)) : ∃ z H2, (∀ B, loudX (fun _ _ _ => none) ⟨B, H⟩ (.bsf 1 [.m (.nl 4)] 1 [0]) [o] = some (.ls [[z]], ⟨B, H2⟩)) ∧ IsSl z (on1 xs) ∧ oneV (.m z) = true ∧ H2.length = H.length ∧ ∀ r, r < n0 → nth H2 r = nth H r := by
 obtain ⟨z, hv, hz, hz1⟩ := h.view 18
 rcases h with ⟨rfl, rfl | rfl⟩ | ⟨r, es, base, lim, hr, rfl, h3, h4, h5, h6⟩
 ·cases hv
  exact ⟨_, H, fun B => rfl, hz, rfl, rfl, fun _ _ => rfl⟩
 ·cases hv
  exact ⟨_, H, fun B => rfl, hz, rfl, rfl, fun _ _ => rfl⟩
 ·refine ⟨z, H.set r (.cs ty 1 (onV es) base true), fun B => ?_, hz, hz1, by simp, fun q hq => nl_set_ne fun e => ?_⟩
  ·have e : loudX (fun _ _ _ => none) ⟨B, H⟩ (.bsf 1 [.m (.nl 4)] 1 [0]) [.sl r es.length 1 0 xs.length lim] = ((optMap (fun e => optMap (Mx.view 20 H) e) [[V.sl r es.length 1 0 xs.length lim]]).bind fun l => (freeze [r] H).bind fun H' => some (.ls l, ⟨B, H'⟩)) := rfl
   rw [e, freezeV h3]
   simp only [optMap, hv, Option.bind_some]
  ·subst e
   have : n0 ≤ r := hr
   omega
theorem LW.call {ty : Nat} {xs : List I} {o : V} {H : Hp} {ok : Nat → Prop} (h : LW ty xs o H ok) {F : Nat} {ys : List I} {v : V} {H0 : Hp} (hp : G.prim F = none) (hs : G.sh F = false) (hg : ∀ z, IsSl z (on1 xs) → Gives G F ((z :: ys).map .m) H0 v H0) (hf : flatV v = true) : Gives G F (o :: ys.map .m) H v H := by
 obtain ⟨r1, r2, r3, r4, r5⟩ := refs_imm (vs := ys.map .m) (is := ys) (allM_imm ys)
 obtain ⟨z, hv, hz, _⟩ := h.view 18
 refine gives_view (is := z :: ys) hp hs (hg z hz) ?_ ?_
 ·show (Mx.view 20 H o).bind _ = _
  rw [hv, Option.bind_some, r5 19 H]
  rfl
 ·rcases h with ⟨rfl, rfl | rfl⟩ | ⟨r, es, base, lim, hr, rfl, h3, h4⟩
  ·exact .inl ⟨by simp [refs, ref1], by simp [shallow, shallow1]⟩
  ·exact .inl ⟨by simp [refs, ref1], by simp [shallow, shallow1]⟩
  ·exact .inr ⟨by simp [refs, ref1], hf⟩
theorem immS_on1 (xs : List I) : immS (on1 xs) = onV xs := by
 unfold immS on1 onV
 rw [List.map_map]
 rfl
def LF (ty : Nat) (xs : List I) (o : V) (H : Hp) (ok : Nat → Prop) : Prop := (xs = [] ∧ (o = .m (.nl 4) ∨ o = .ls [])) ∨
 ∃ (r : Nat) (base : Nat), ok r ∧ o = .sl r xs.length 1 0 xs.length false ∧ nth H r = some (.cs ty 1 (onV xs) base false) ∧ base ≤ xs.length ∧ xs ≠ []
theorem LF.toLW {ty : Nat} {xs : List I} {o : V} {H : Hp} {ok : Nat → Prop} (h : LF ty xs o H ok) : LW ty xs o H ok := by
 rcases h with h | ⟨r, base, hr, rfl, h3, h4, _⟩
 ·exact .inl h
 ·exact .inr ⟨r, xs, base, false, hr, rfl, h3, h4, Nat.le_refl _, List.take_length⟩
theorem LR.toLF {ty : Nat} {xs : List I} {o : V} {H : Hp} {ok : Nat → Prop} (h : LR ty xs o H ok) : LF ty xs o H ok := by
 rcases h with ⟨rfl, rfl⟩ | ⟨hne, r, hr, rfl, h3⟩
 ·exact .inl ⟨rfl, .inl rfl⟩
 ·exact .inr ⟨r, 0, hr, rfl, h3, Nat.zero_le _, hne⟩
theorem LF.sort {ty F : Nat} {xs : List I} {o : V} {H : Hp} {ok : Nat → Prop} (h : LF ty xs o H ok) (hp : G.prim F = some (srtX false 1)) {g : V} {gc : Nat × List V} (hg : cavF g = some gc) {is : List I} (hi : allM gc.2 = some is) (hl : xs.length ≤ 4611686018427387903) (ha : noAg xs)
  {c : I → I → Int} (hc : ∀ x, x ∈ xs → ∀ y, y ∈ xs → Gives G gc.1 (.m x :: .m y :: gc.2) [] (.m (.i .i64 (c x y))) []) (ht : Wo (fun x y => decide (c x y < 0)) xs) :
  ∃ (ys : List I) (H1 : Hp), Gives G F [o, g] H (.tu []) H1 ∧ ys.Perm xs ∧ ys.Pairwise (fun a b => decide (c b a < 0) = false) ∧ LF ty ys o H1 ok ∧ H1.length = H.length ∧ ∀ r, ¬ ok r → nth H1 r = nth H r := by
 rcases h with ⟨rfl, ho⟩ | ⟨r, base, hr, rfl, h3, h4, hne⟩
 ·exact ⟨[], H, sort_nil hp hg hi ho H, .refl _, .nil, .inl ⟨rfl, ho⟩, rfl, fun _ _ => rfl⟩
 ·have hd1 : ∀ x : List I, x ∈ on1 xs → ∃ y, y ∈ xs ∧ x = [y] := fun x hx => by
   obtain ⟨y, hy, rfl⟩ := List.mem_map.1 hx
   exact ⟨y, hy, rfl⟩
  obtain ⟨ws, hw1, hw2, hs⟩ := sort_gives (G := G) (r := r) (ty := ty) (st := 0) (len := xs.length) (lim := false) mono hp hg hi h3 (by simp) (by simpa using hl) (xs := on1 xs) (by rw [immS_on1, List.drop_zero]; exact List.take_of_length_le (by simp)) (by
    rw [immS_on1, List.all_eq_true]
    intro e he
    obtain ⟨x, hx, rfl⟩ := List.mem_map.1 he
    simp [ha x hx])
   (c := fun x y => c (x.headD (.b true)) (y.headD (.b true))) (fun x hx y hy => by
    obtain ⟨a, ha1, rfl⟩ := hd1 x hx
    obtain ⟨b, hb1, rfl⟩ := hd1 y hy
    exact hc a ha1 b hb1) ⟨fun x hx => by
    obtain ⟨a, ha1, rfl⟩ := hd1 x hx
    exact ht.irr a ha1, fun x hx y hy z hz => by
    obtain ⟨a, ha1, rfl⟩ := hd1 x hx
    obtain ⟨b, hb1, rfl⟩ := hd1 y hy
    obtain ⟨d, hd, rfl⟩ := hd1 z hz
    exact ht.tr a ha1 b hb1 d hd, fun x hx y hy z hz => by
    obtain ⟨a, ha1, rfl⟩ := hd1 x hx
    obtain ⟨b, hb1, rfl⟩ := hd1 y hy
    obtain ⟨d, hd, rfl⟩ := hd1 z hz
    exact ht.ntr a ha1 b hb1 d hd⟩
  have hws : ws = on1 (ws.map fun x => x.headD (.b true)) := by
   unfold on1
   rw [List.map_map]
   refine (List.map_id ws).symm.trans (List.map_congr_left fun x hx => ?_)
   obtain ⟨y, _, rfl⟩ := hd1 x (hw1.mem_iff.1 hx)
   rfl
  generalize hys : ws.map (fun x => x.headD (.b true)) = ys at *
  have hpy : ys.Perm xs := by
   rw [← hys]
   refine (hw1.map _).trans ?_
   unfold on1
   rw [List.map_map]
   exact .of_eq (List.map_id xs)
  rw [hws, immS_on1] at hs
  have hyl : ys.length = xs.length := hpy.length_eq
  have e : srtH H r ty 1 (onV xs) 0 (onV ys) = H.set r (.cs ty 1 (onV ys) xs.length false) := by
   have hc2 : cpyEl (onV xs) 0 (onV ys) = onV ys := by
    unfold cpyEl
    rw [List.take_zero, List.nil_append, List.drop_eq_nil_of_le (by simp; omega), List.append_nil]
   cases ys with
   | nil =>
    simp at hyl
    exact absurd hyl.symm (by simpa using hne)
   | cons y t =>
    show H.set r (.cs ty 1 (cpyEl (onV xs) 0 (onV (y :: t))) (onV xs).length false) = _
    rw [hc2, onV_len]
  rw [e, onV_len] at hs
  refine ⟨ys, _, hs, hpy, ?_, .inr ⟨r, xs.length, hr, by rw [hyl], nl_set_eq (nl_lt h3), by omega, fun e => ?_⟩, by simp, fun q hq => nl_set_ne fun e => ?_⟩
  ·rw [← hys, List.pairwise_map]
   exact hw2
  ·rw [e] at hyl
   exact hne (List.eq_nil_of_length_eq_zero hyl.symm)
  ·exact hq (e ▸ hr)
end Go.Mx.Tryz
