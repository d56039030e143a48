/- Units, the program's text: looking at a clause. -/
import Derived.Test.YtcdcepfigjohfaaGreatDoorZf
set_option linter.unusedSimpArgs false
set_option linter.unusedVariables false
set_option linter.unusedSectionVars false
set_option maxRecDepth 100000
namespace Go.Mx.Tryz

def rowOf : V → Option Nat
 | .sl r _ _ _ _ _ => some r
 | _ => none
abbrev Any1 : Nat → Prop := fun _ => True
theorem LR.push1 {ty b : Nat} {xs : List I} {o : V} {H : Hp} (h : LR ty xs o H Any1) (hb : b ≤ 1000) {y : I} (hl : xs.length + 1 ≤ 100000000) (ha : oneV (.m y) = true) : ∃ o1 H1, (∀ B, loudX (fun _ _ _ => none) ⟨B, H⟩ (.app ty 1 b) [o, .ls [[y]]] = some (o1, ⟨B, H1⟩)) ∧ noFaV o1 = true ∧ LR ty (xs ++ [y]) o1 H1 Any1 ∧ H.length ≤ H1.length ∧ (∀ r, r < H.length → rowOf o ≠ some r → nth H1 r = nth H r) ∧ (∀ r, rowOf o1 = some r → rowOf o = some r ∨ (r = H.length ∧ H1.length = H.length + 1)) := by
 have aq : noAg [y] := fun u hu => by rw [List.mem_singleton] at hu; subst hu; exact ha
 have hmul : (xs.length + 1) * b ≤ 100000000 * 1000 := Nat.mul_le_mul hl hb
 rcases h with ⟨rfl, rfl⟩ | ⟨hne, r, hr, rfl, h3⟩
 ·refine ⟨.sl H.length 1 1 0 1 false, H ++ [.cs ty 1 (onV [y]) 0 false], fun B => (loud_elems rfl).trans ?_, rfl, .inr ⟨by simp, H.length, trivial, rfl, nl_end H _ 0⟩, by simp, fun r hr _ => nl_app _ _ _ hr, fun r hr => .inr ⟨(Option.some.inj hr).symm, by simp⟩⟩
  show newRow ⟨B, H⟩ ty 1 b (onV [y]) = _
  rw [newRow_eq, onV_ok aq, onV_len]
  have : Nat.ble ([y].length * b) 140737488355328 = true := by
   rw [ble_dec]
   refine decide_eq_true ?_
   simp only [List.length_nil, List.length_cons, Nat.zero_add] at hmul ⊢
   omega
  rw [this]
  rfl
 ·have ha2 := fun B => app_row (M := ⟨B, H⟩) (bytes := b) (xs := onV [y]) h3 (by simp [onV]) (by simp only [onV_len, List.length_singleton]; omega) (onV_ok aq)
  simp only [onV_len, onV_app] at ha2
  have el : xs.length + [y].length = (xs ++ [y]).length := by simp
  rw [el] at ha2
  refine ⟨_, _, fun B => (loud_elems rfl).trans (ha2 B), rfl, .inr ⟨by simp, r, trivial, rfl, nl_set_eq (nl_lt h3)⟩, by simp, fun q hq hne2 => nl_set_ne fun e => ?_, fun q hq => .inl hq⟩
  subst e
  exact hne2 rfl
theorem LR.keepR {ty : Nat} {xs : List I} {o : V} {H H' : Hp} (h : LR ty xs o H Any1) (hk : ∀ r, rowOf o = some r → r < H.length → nth H' r = nth H r) : LR ty xs o H' Any1 := by
 rcases h with h | ⟨hne, r, hr, e, h3⟩
 ·exact .inl h
 ·subst e
  exact .inr ⟨hne, r, trivial, rfl, by rw [hk r rfl (nl_lt h3)]; exact h3⟩
theorem LR.row_lt {ty : Nat} {xs : List I} {o : V} {H : Hp} {ok : Nat → Prop} (h : LR ty xs o H ok) {r : Nat} (e : rowOf o = some r) : r < H.length := by
 rcases h with ⟨_, rfl⟩ | ⟨hne, q, hr, rfl, h3⟩
 ·cases e
 ·cases e
  exact nl_lt h3
def pRow (oc oq : V) (rin ris b : Nat) : Row := .cs 66 4 [[oc, .mp rin, .mp ris, oq]] b false
theorem rd_p0 (oc oq : V) (rin ris : Nat) : readR 4 [[oc, .mp rin, .mp ris, oq]] 0 0 1 = some [oc] := rfl
theorem rd_p1 (oc oq : V) (rin ris : Nat) : readR 4 [[oc, .mp rin, .mp ris, oq]] 0 1 1 = some [.mp rin] := rfl
theorem rd_p2 (oc oq : V) (rin ris : Nat) : readR 4 [[oc, .mp rin, .mp ris, oq]] 0 2 1 = some [.mp ris] := rfl
theorem rd_p3 (oc oq : V) (rin ris : Nat) : readR 4 [[oc, .mp rin, .mp ris, oq]] 0 3 1 = some [oq] := rfl
theorem wr_p3 (oc oq oq' : V) (rin ris : Nat) : writeR 4 [[oc, .mp rin, .mp ris, oq]] 0 3 [oq'] = some [[oc, .mp rin, .mp ris, oq']] := rfl
theorem wr_p0 (oc oc' oq : V) (rin ris : Nat) : writeR 4 [[oc, .mp rin, .mp ris, oq]] 0 0 [oc'] = some [[oc', .mp rin, .mp ris, oq]] := rfl
theorem val_1 {o : V} (h : oneV o = true) : valOf false [o] = some o := rfl
structure QS (H : Hp) (rp rin ris : Nat) (oc oq : V) (a : List Int) : Prop where
 row : ∃ b, b ≤ 1 ∧ nth H rp = some (pRow oc oq rin ris b)
 map : ∃ m, nth H ris = some (mIB m) ∧ MpL m a
 que : LR 3 (iI a) oq H Any1
 own : ∀ r, rowOf oq = some r → rp < r
 lt : ris < rp
 nf : noFaV oc = true ∧ cellsV oc = some [oc] ∧ oneV oc = true
def Keep (H H' : Hp) (rp ris : Nat) (oq : V) : Prop := H.length ≤ H'.length ∧ ∀ r, r < H.length → r ≠ rp → r ≠ ris → rowOf oq ≠ some r → nth H' r = nth H r
def New (H : Hp) (oq oq' : V) : Prop := ∀ r, rowOf oq' = some r → rowOf oq = some r ∨ H.length ≤ r

set_option maxHeartbeats 2000000 in
theorem set_s {H : Hp} {rp rin ris : Nat} {oc oq : V} {a : List Int} {x : Int} (h : QS H rp rin ris oc oq a) (hx : -65536 ≤ x ∧ x ≤ 65536) (hl : a.length ≤ 10000) :
  ∃ v H', Gives G 48 [.pt rp 1 0 0, .m (.i .i64 x)] H v H' ∧ ((-x ∈ a ∧ v = .m (.b false) ∧ H' = H) ∨ (¬ -x ∈ a ∧ x ∈ a ∧ v = .m (.b true) ∧ H' = H) ∨ (¬ -x ∈ a ∧ ¬ x ∈ a ∧ v = .m (.b true) ∧ ∃ oq', QS H' rp rin ris oc oq' (a ++ [x]) ∧ Keep H H' rp ris oq ∧ New H oq oq')) := by
 refine gives_of_ret ?_
 refine ret_sh mono rfl rfl rfl rfl rfl ?_
 generalize hQ : (fun (v : V) (H' : Hp) => (-x ∈ a ∧ v = .m (.b false) ∧ H' = H) ∨ (¬ -x ∈ a ∧ x ∈ a ∧ v = .m (.b true) ∧ H' = H) ∨ (¬ -x ∈ a ∧ ¬ x ∈ a ∧ v = .m (.b true) ∧ ∃ oq', QS H' rp rin ris oc oq' (a ++ [x]) ∧ Keep H H' rp ris oq ∧ New H oq oq')) = Q
 obtain ⟨⟨b, hb, hrow⟩, ⟨m, hm, hml⟩, hq, hown, hlt, n1, n2, n3⟩ := h
 obtain ⟨q1, q2, q3, q4⟩ := hq.nf
 have hrow' := hrow
 unfold pRow at hrow'
 have hm' : nth H ris = some (mpR ekI evB m) := hm
 have wx := wr_neg hx
 have g1 := hml (-x)
 have g2 := hml x
 by_cases h1 : -x ∈ a
 ·rw [decide_eq_true h1] at g1
  have k : Q (.m (.b false)) H := by rw [← hQ]; exact .inl ⟨h1, rfl, rfl⟩
  simp (maxSteps := 2000000) (disch := omega) [gd_in, gd_and, wr_i64, hrow', hm', hb, rd_p2, rd_p3, wr_p3, wx, g1]
  exact k
 ·rw [decide_eq_false h1] at g1
  by_cases h2 : x ∈ a
  ·rw [decide_eq_true h2] at g2
   have k : Q (.m (.b true)) H := by rw [← hQ]; exact .inr (.inl ⟨h1, h2, rfl, rfl⟩)
   simp (maxSteps := 2000000) (disch := omega) [gd_in, gd_and, wr_i64, hrow', hm', hb, rd_p2, rd_p3, wr_p3, wx, g1, g2]
   exact k
  ·rw [decide_eq_false h2] at g2
   have hrl := nl_lt hrow
   have hml2 := nl_lt hm
   have e1 := setEl_put H ris (mpR ekI evB (mset m x true)) hml2
   have hown2 : ∀ r, rowOf oq = some r → r ≠ ris ∧ r ≠ rp := fun r hr => by
    have := hown r hr
    omega
   have hrow1 : nth (H.set ris (mpR ekI evB (mset m x true))) rp = some (.cs 66 4 [[oc, .mp rin, .mp ris, oq]] b false) := by
    rw [nl_set_ne (by omega)]
    exact hrow'
   have hq1 : LR 3 (iI a) oq (H.set ris (mpR ekI evB (mset m x true))) Any1 := hq.keepR fun r hr _ => nl_set_ne (by have := hown2 r hr; omega)
   have hmap1 : nth (H.set ris (mpR ekI evB (mset m x true))) ris = some (mIB (mset m x true)) := nl_set_eq hml2
   have hlen1 : (H.set ris (mpR ekI evB (mset m x true))).length = H.length := by simp
   have hk1 : ∀ r, r ≠ ris → nth (H.set ris (mpR ekI evB (mset m x true))) r = nth H r := fun r hr => nl_set_ne (by omega)
   generalize H.set ris (mpR ekI evB (mset m x true)) = H1 at *
   obtain ⟨oq', H2, c1, c2, c3, c4, c5, c6⟩ := hq1.push1 (b := 8) (by omega) (y := .i .i64 x) (by simp; omega) rfl
   have hrow2 : nth H2 rp = some (.cs 66 4 [[oc, .mp rin, .mp ris, oq]] b false) := by
    rw [c5 rp (by omega) fun e => (hown2 rp e).2 rfl]
    exact hrow1
   have hmap2 : nth H2 ris = some (mIB (mset m x true)) := by
    rw [c5 ris (by omega) fun e => (hown2 ris e).1 rfl]
    exact hmap1
   have e2 := setEl_put H2 rp (.cs 66 4 [[oc, .mp rin, .mp ris, oq']] 1 false) (nl_lt hrow2)
   obtain ⟨d1, d2, d3, d4⟩ := c3.nf
   have hown3 : ∀ r, rowOf oq' = some r → rp < r := fun r hr => by
    rcases c6 r hr with h | ⟨h, _⟩
    ·exact hown r h
    ·omega
   have k : Q (.m (.b true)) (H2.set rp (.cs 66 4 [[oc, .mp rin, .mp ris, oq']] 1 false)) := by
    rw [← hQ]
    refine .inr (.inr ⟨h1, h2, rfl, oq', ⟨⟨1, Nat.le_refl _, nl_set_eq (nl_lt hrow2)⟩, ⟨_, (nl_set_ne (by omega)).trans hmap2, hml.snoc x⟩, ?_, hown3, hlt, n1, n2, n3⟩, ⟨by simp; omega, fun r hr e1 e2 e3 => ?_⟩, fun r hr => ?_⟩)
    ·rw [show iI (a ++ [x]) = iI a ++ [.i .i64 x] from (iI_app a [x]).symm]
     exact c3.keepR fun r hr _ => nl_set_ne (by have := hown3 r hr; omega)
    ·rw [nl_set_ne (by omega), c5 r (by omega) e3, hk1 r e2]
    ·rcases c6 r hr with h | ⟨h, _⟩
     ·exact .inl h
     ·exact .inr (by omega)
   simp (maxSteps := 2000000) (disch := omega) [gd_in, gd_and, wr_i64, hrow', hm', hb, rd_p2, rd_p3, wr_p3, wx, g1, g2, e1, hrow1, -loud_app, c1, hrow2, e2, d2, d3, setC_v q1, setC_v c2]
   exact k
end Go.Mx.Tryz
namespace Go.Mx.Tryz

def LookQ (H : Hp) (rp rin ris : Nat) (oc oq : V) (a c : List Int) (v : V) (H' : Hp) : Prop :=
 (Okc a c ∧ v = .m (.b true) ∧ H' = H) ∨ (rst a c = [] ∧ v = .m (.b false) ∧ H' = H) ∨ (sat a c = false ∧ v = .m (.b true) ∧ ∃ x, (∀ y, y ∈ rst a c ↔ y = x) ∧ ∃ oq', QS H' rp rin ris oc oq' (a ++ [x]) ∧ Keep H H' rp ris oq ∧ New H oq oq')

set_option maxHeartbeats 4000000 in
theorem look_s {H : Hp} {rp rin ris : Nat} {oc oq : V} {a c : List Int} {z : I} (h : QS H rp rin ris oc oq a) (hz : IsSl z (celI c)) (hc : c.length ≤ 100000) (hs : Sm c) (hnd : c.Nodup) (hl : a.length ≤ 10000) :
  ∃ v H', Gives G 50 [.pt rp 1 0 0, .m z] H v H' ∧ LookQ H rp rin ris oc oq a c v H' := by
 refine gives_of_ret ?_
 refine ret_sh mono rfl rfl rfl rfl rfl ?_
 have hS := h
 obtain ⟨⟨b, hb, hrow⟩, ⟨m, hm, hml⟩, hq, hown, hlt, n1, n2, n3⟩ := h
 unfold pRow at hrow
 have hm' : nth H ris = some (mpR ekI evB m) := hm
 have hr := hz.rules
 simp only [celI_len] at hr
 simp (maxSteps := 2000000) (disch := omega) [gd_in, gd_and, wr_i64, hr]
 refine (?key : ∀ (i : Nat) (op : Int) (B : List (Nat × List V)), i ≤ c.length → sat a (c.take i) = false → (∀ x, rst a (c.take i) = [x] → op = x) → Run G c50_B0 (S50_0 (.pt rp 1 0 0) (.m (.i .i64 op)) (.m (.i .i64 ((rst a (c.take i)).length : Int))) (.m z) (.m (.i .i64 (c.length : Int))) (.m (.i .i64 (i : Int))) B H) _) 0 0 [] (Nat.zero_le _) rfl (fun x h => by cases h)
 refine indM (fun i : Nat => c.length - i) fun i ih op B hi hsat hop => ?_
 unfold c50_B0
 cases hx : c[i]? with
 | none =>
  have : i = c.length := by have := List.getElem?_eq_none_iff.1 hx; omega
  subst this
  rw [List.take_length] at hsat hop
  have hmem := fun y => mem_rst (a := a) (c := c) (x := y)
  have hnr : (rst a c).Nodup := hnd.filter _
  have hrl := rst_len a c
  cases hrs : rst a c with
  | nil =>
   have k : LookQ H rp rin ris oc oq a c (.m (.b false)) H := .inr (.inl ⟨hrs, rfl, rfl⟩)
   simp (maxSteps := 2000000) (disch := omega) [gd_in, gd_and, wr_i64, gcall_cx, hr, hrs]
   exact k
  | cons x t =>
   have hxr : x ∈ rst a c := by rw [hrs]; exact List.mem_cons_self ..
   cases t with
   | nil =>
    have hox := hop x hrs
    subst hox
    obtain ⟨v, H', g, hv⟩ := set_s hS (hs op ((hmem op).1 hxr).1) hl
    obtain ⟨h1, h2⟩ := (hmem op).1 hxr
    rcases hv with ⟨e, _⟩ | ⟨_, e, _⟩ | ⟨_, _, rfl, oq', k1, k2, k3⟩
    ·exact absurd e h2
    ·rw [sat_of h1 e] at hsat
     cases hsat
    ·have k : LookQ H rp rin ris oc oq a c (.m (.b true)) H' := .inr (.inr ⟨hsat, rfl, op, fun y => by rw [hrs]; simp, oq', k1, k2, k3⟩)
     simp (maxSteps := 2000000) (disch := omega) [gd_in, gd_and, wr_i64, gcall_cx, hr, hrs, cl g]
     exact k
   | cons y t =>
    have k : LookQ H rp rin ris oc oq a c (.m (.b true)) H := by
     refine .inl ⟨.inr ⟨x, y, fun e => ?_, hxr, by rw [hrs]; simp⟩, rfl, rfl⟩
     rw [hrs, e] at hnr
     simp at hnr
    have l1 : (1 : Int) < ((t.length + 1 + 1 : Nat) : Int) := by omega
    simp (maxSteps := 2000000) (disch := omega) [gd_in, gd_and, wr_i64, gcall_cx, hr, hrs, l1, -Int.natCast_add]
    exact k
 | some x =>
  have hlt := (List.getElem?_eq_some_iff.1 hx).1
  have hlt' : (i : Int) < c.length := by omega
  have hn := celI_nth hx
  have hxm := List.mem_of_getElem? hx
  have wi : wr .i64 ((i : Int) + 1) = ((i + 1 : Nat) : Int) := wr_i64 (by omega) (by omega)
  have wx := wr_neg (hs x hxm)
  have g1 := hml x
  have g2 := hml (-x)
  have hs2 := sat_take hx hsat
  have hrl := rst_len a (c.take i)
  rw [List.length_take] at hrl
  by_cases h1 : x ∈ a
  ·rw [decide_eq_true h1] at g1
   have k : LookQ H rp rin ris oc oq a c (.m (.b true)) H := .inl ⟨.inl (sat_of hxm h1), rfl, rfl⟩
   simp (maxSteps := 2000000) (disch := omega) [gd_in, gd_and, wr_i64, hr, hlt, hlt', hn, hrow, hm', hb, rd_p2, g1, -Int.natCast_add]
   exact k
  ·rw [decide_eq_false h1] at g1 hs2
   have k := fun op B => ih (i + 1) (by omega) op B (by omega) hs2
   rw [take_succ_get hx, rst_snoc] at k
   by_cases h2 : -x ∈ a
   ·rw [decide_eq_true h2] at g2
    rw [if_pos h2] at k
    simp (maxSteps := 2000000) (disch := omega) [gd_in, gd_and, wr_i64, hr, hlt, hlt', hn, hrow, hm', hb, rd_p2, g1, g2, wx, wi, -Int.natCast_add]
    exact k _ _ hop
   ·rw [decide_eq_false h2] at g2
    rw [if_neg h2] at k
    have wn : wr .i64 (((rst a (c.take i)).length : Int) + 1) = ((rst a (c.take i) ++ [x]).length : Int) := by
     rw [wr_i64 (by omega) (by omega)]
     simp
    have k := fun B => k x B fun y hy => by
     have hlen := congrArg List.length hy
     simp only [List.length_append, List.length_cons, List.length_nil] at hlen
     have h0 : rst a (c.take i) = [] := List.length_eq_zero_iff.1 (by omega)
     rw [h0] at hy
     simpa using hy
    simp (maxSteps := 2000000) (disch := omega) [gd_in, gd_and, wr_i64, hr, hlt, hlt', hn, hrow, hm', hb, rd_p2, g1, g2, wx, wi, wn, -Int.natCast_add, -List.length_append]
    exact k _
end Go.Mx.Tryz
