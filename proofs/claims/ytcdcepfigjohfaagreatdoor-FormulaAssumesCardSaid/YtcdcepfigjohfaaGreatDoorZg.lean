/- Units, the program's text: setting a literal. -/
import Derived.Test.YtcdcepfigjohfaaGreatDoorZf
set_option linter.unusedSimpArgs false
set_option linter.unusedVariables false
set_option linter.unusedSectionVars false
set_option maxRecDepth 100000
namespace Go.Mx.Tryz

def rowOf : V → Option Nat
 | .sl r _ _ _ _ _ => some r
 | _ => none
abbrev Any1 : Nat → Prop := fun _ => True
theorem LR.push1 {ty b : Nat} {xs : List I} {o : V} {H : Hp} (h : LR ty xs o H Any1) (hb : b ≤ 1000) {y : I} (hl : xs.length + 1 ≤ 100000000) (ha : oneV (.m y) = true) : ∃ o1 H1, (∀ B, loudX (fun _ _ _ => none) ⟨B, H⟩ (.app ty 1 b) [o, .ls [[y]]] = some (o1, ⟨B, H1⟩)) ∧ noFaV o1 = true ∧ LR ty (xs ++ [y]) o1 H1 Any1 ∧ H.length ≤ H1.length ∧ (∀ r, r < H.length → rowOf o ≠ some r → nth H1 r = nth H r) ∧ (∀ r, rowOf o1 = some r → rowOf o = some r ∨ (r = H.length ∧ H1.length = H.length + 1)) := by
 have aq : noAg [y] := fun u hu => by rw [List.mem_singleton] at hu; subst hu; exact ha
 have hmul : (xs.length + 1) * b ≤ 100000000 * 1000 := Nat.mul_le_mul hl hb
 rcases h with ⟨rfl, rfl⟩ | ⟨hne, r, hr, rfl, h3⟩
 ·refine ⟨.sl H.length 1 1 0 1 false, H ++ [.cs ty 1 (onV [y]) 0 false], fun B => (loud_elems rfl).trans ?_, rfl, .inr ⟨by simp, H.length, trivial, rfl, nl_end H _ 0⟩, by simp, fun r hr _ => nl_app _ _ _ hr, fun r hr => .inr ⟨(Option.some.inj hr).symm, by simp⟩⟩
  show newRow ⟨B, H⟩ ty 1 b (onV [y]) = _
  rw [newRow_eq, onV_ok aq, onV_len]
  have : Nat.ble ([y].length * b) 140737488355328 = true := by
   rw [ble_dec]
   refine decide_eq_true ?_
   simp only [List.length_nil, List.length_cons, Nat.zero_add] at hmul ⊢
   omega
  rw [this]
  rfl
 ·have ha2 := fun B => app_row (M := ⟨B, H⟩) (bytes := b) (xs := onV [y]) h3 (by simp [onV]) (by simp only [onV_len, List.length_singleton]; omega) (onV_ok aq)
  simp only [onV_len, onV_app] at ha2
  have el : xs.length + [y].length = (xs ++ [y]).length := by simp
  rw [el] at ha2
  refine ⟨_, _, fun B => (loud_elems rfl).trans (ha2 B), rfl, .inr ⟨by simp, r, trivial, rfl, nl_set_eq (nl_lt h3)⟩, by simp, fun q hq hne2 => nl_set_ne fun e => ?_, fun q hq => .inl hq⟩
  subst e
  exact hne2 rfl
theorem LR.keepR {ty : Nat} {xs : List I} {o : V} {H H' : Hp} (h : LR ty xs o H Any1) (hk : ∀ r, rowOf o = some r → r < H.length → nth H' r = nth H r) : LR ty xs o H' Any1 := by
 rcases h with h | ⟨hne, r, hr, e, h3⟩
 ·exact .inl h
 ·subst e
  exact .inr ⟨hne, r, trivial, rfl, by rw [hk r rfl (nl_lt h3)]; exact h3⟩
theorem LR.row_lt {ty : Nat} {xs : List I} {o : V} {H : Hp} {ok : Nat → Prop} (h : LR ty xs o H ok) {r : Nat} (e : rowOf o = some r) : r < H.length := by
 rcases h with ⟨_, rfl⟩ | ⟨hne, q, hr, rfl, h3⟩
 ·cases e
 ·cases e
  exact nl_lt h3
def pRow (oc oq : V) (rin ris b : Nat) : Row := .cs 66 4 [[oc, .mp rin, .mp ris, oq]] b false
theorem rd_p0 (oc oq : V) (rin ris : Nat) : readR 4 [[oc, .mp rin, .mp ris, oq]] 0 0 1 = some [oc] := rfl
theorem rd_p1 (oc oq : V) (rin ris : Nat) : readR 4 [[oc, .mp rin, .mp ris, oq]] 0 1 1 = some [.mp rin] := rfl
theorem rd_p2 (oc oq : V) (rin ris : Nat) : readR 4 [[oc, .mp rin, .mp ris, oq]] 0 2 1 = some [.mp ris] := rfl
theorem rd_p3 (oc oq : V) (rin ris : Nat) : readR 4 [[oc, .mp rin, .mp ris, oq]] 0 3 1 = some [oq] := rfl
theorem wr_p3 (oc oq oq' : V) (rin ris : Nat) : writeR 4 [[oc, .mp rin, .mp ris, oq]] 0 3 [oq'] = some [[oc, .mp rin, .mp ris, oq']] := rfl
theorem wr_p0 (oc oc' oq : V) (rin ris : Nat) : writeR 4 [[oc, .mp rin, .mp ris, oq]] 0 0 [oc'] = some [[oc', .mp rin, .mp ris, oq]] := rfl
theorem val_1 {o : V} (h : oneV o = true) : valOf false [o] = some o := rfl
structure QS (H : Hp) (rp rin ris : Nat) (oc oq : V) (a : List Int) : Prop where
 row : ∃ b, b ≤ 1 ∧ nth H rp = some (pRow oc oq rin ris b)
 map : ∃ m, nth H ris = some (mIB m) ∧ MpL m a
 que : LR 3 (iI a) oq H Any1
 own : ∀ r, rowOf oq = some r → rp < r
 lt : ris < rp
 nf : noFaV oc = true ∧ cellsV oc = some [oc] ∧ oneV oc = true
def Keep (H H' : Hp) (rp ris : Nat) (oq : V) : Prop := H.length ≤ H'.length ∧ ∀ r, r < H.length → r ≠ rp → r ≠ ris → rowOf oq ≠ some r → nth H' r = nth H r
def New (H : Hp) (oq oq' : V) : Prop := ∀ r, rowOf oq' = some r → rowOf oq = some r ∨ H.length ≤ r

set_option maxHeartbeats 2000000 in
theorem set_s {H : Hp} {rp rin ris : Nat} {oc oq : V} {a : List Int} {x : Int} (h : QS H rp rin ris oc oq a) (hx : -65536 ≤ x ∧ x ≤ 65536) (hl : a.length ≤ 10000) :
  ∃ v H', Gives G 48 [.pt rp 1 0 0, .m (.i .i64 x)] H v H' ∧ ((-x ∈ a ∧ v = .m (.b false) ∧ H' = H) ∨ (¬ -x ∈ a ∧ x ∈ a ∧ v = .m (.b true) ∧ H' = H) ∨ (¬ -x ∈ a ∧ ¬ x ∈ a ∧ v = .m (.b true) ∧ ∃ oq', QS H' rp rin ris oc oq' (a ++ [x]) ∧ Keep H H' rp ris oq ∧ New H oq oq')) := by
 refine gives_of_ret ?_
 refine ret_sh mono rfl rfl rfl rfl rfl ?_
 generalize hQ : (fun (v : V) (H' : Hp) => (-x ∈ a ∧ v = .m (.b false) ∧ H' = H) ∨ (¬ -x ∈ a ∧ x ∈ a ∧ v = .m (.b true) ∧ H' = H) ∨ (¬ -x ∈ a ∧ ¬ x ∈ a ∧ v = .m (.b true) ∧ ∃ oq', QS H' rp rin ris oc oq' (a ++ [x]) ∧ Keep H H' rp ris oq ∧ New H oq oq')) = Q
 obtain ⟨⟨b, hb, hrow⟩, ⟨m, hm, hml⟩, hq, hown, hlt, n1, n2, n3⟩ := h
 obtain ⟨q1, q2, q3, q4⟩ := hq.nf
 have hrow' := hrow
 unfold pRow at hrow'
 have hm' : nth H ris = some (mpR ekI evB m) := hm
 have wx := wr_neg hx
 have g1 := hml (-x)
 have g2 := hml x
 by_cases h1 : -x ∈ a
 ·rw [decide_eq_true h1] at g1
  have k : Q (.m (.b false)) H := by rw [← hQ]; exact .inl ⟨h1, rfl, rfl⟩
  simp (maxSteps := 2000000) (disch := omega) [gd_in, gd_and, wr_i64, hrow', hm', hb, rd_p2, rd_p3, wr_p3, wx, g1]
  exact k
 ·rw [decide_eq_false h1] at g1
  by_cases h2 : x ∈ a
  ·rw [decide_eq_true h2] at g2
   have k : Q (.m (.b true)) H := by rw [← hQ]; exact .inr (.inl ⟨h1, h2, rfl, rfl⟩)
   simp (maxSteps := 2000000) (disch := omega) [gd_in, gd_and, wr_i64, hrow', hm', hb, rd_p2, rd_p3, wr_p3, wx, g1, g2]
   exact k
  ·rw [decide_eq_false h2] at g2
   have hrl := nl_lt hrow
   have hml2 := nl_lt hm
   have e1 := setEl_put H ris (mpR ekI evB (mset m x true)) hml2
   have hown2 : ∀ r, rowOf oq = some r → r ≠ ris ∧ r ≠ rp := fun r hr => by
    have := hown r hr
    omega
   have hrow1 : nth (H.set ris (mpR ekI evB (mset m x true))) rp = some (.cs 66 4 [[oc, .mp rin, .mp ris, oq]] b false) := by
    rw [nl_set_ne (by omega)]
    exact hrow'
   have hq1 : LR 3 (iI a) oq (H.set ris (mpR ekI evB (mset m x true))) Any1 := hq.keepR fun r hr _ => nl_set_ne (by have := hown2 r hr; omega)
   have hmap1 : nth (H.set ris (mpR ekI evB (mset m x true))) ris = some (mIB (mset m x true)) := nl_set_eq hml2
   have hlen1 : (H.set ris (mpR ekI evB (mset m x true))).length = H.length := by simp
   have hk1 : ∀ r, r ≠ ris → nth (H.set ris (mpR ekI evB (mset m x true))) r = nth H r := fun r hr => nl_set_ne (by omega)
   generalize H.set ris (mpR ekI evB (mset m x true)) = H1 at *
   obtain ⟨oq', H2, c1, c2, c3, c4, c5, c6⟩ := hq1.push1 (b := 8) (by omega) (y := .i .i64 x) (by simp; omega) rfl
   have hrow2 : nth H2 rp = some (.cs 66 4 [[oc, .mp rin, .mp ris, oq]] b false) := by
    rw [c5 rp (by omega) fun e => (hown2 rp e).2 rfl]
    exact hrow1
   have hmap2 : nth H2 ris = some (mIB (mset m x true)) := by
    rw [c5 ris (by omega) fun e => (hown2 ris e).1 rfl]
    exact hmap1
   have e2 := setEl_put H2 rp (.cs 66 4 [[oc, .mp rin, .mp ris, oq']] 1 false) (nl_lt hrow2)
   obtain ⟨d1, d2, d3, d4⟩ := c3.nf
   have hown3 : ∀ r, rowOf oq' = some r → rp < r := fun r hr => by
    rcases c6 r hr with h | ⟨h, _⟩
    ·exact hown r h
    ·omega
   have k : Q (.m (.b true)) (H2.set rp (.cs 66 4 [[oc, .mp rin, .mp ris, oq']] 1 false)) := by
    rw [← hQ]
    refine .inr (.inr ⟨h1, h2, rfl, oq', ⟨⟨1, Nat.le_refl _, nl_set_eq (nl_lt hrow2)⟩, ⟨_, (nl_set_ne (by omega)).trans hmap2, hml.snoc x⟩, ?_, hown3, hlt, n1, n2, n3⟩, ⟨by simp; omega, fun r hr e1 e2 e3 => ?_⟩, fun r hr => ?_⟩)
    ·rw [show iI (a ++ [x]) = iI a ++ [.i .i64 x] from (iI_app a [x]).symm]
     exact c3.keepR fun r hr _ => nl_set_ne (by have := hown3 r hr; omega)
    ·rw [nl_set_ne (by omega), c5 r (by omega) e3, hk1 r e2]
    ·rcases c6 r hr with h | ⟨h, _⟩
     ·exact .inl h
     ·exact .inr (by omega)
   simp (maxSteps := 2000000) (disch := omega) [gd_in, gd_and, wr_i64, hrow', hm', hb, rd_p2, rd_p3, wr_p3, wx, g1, g2, e1, hrow1, -loud_app, c1, hrow2, e2, d2, d3, setC_v q1, setC_v c2]
   exact k
end Go.Mx.Tryz
