/- Contents of stores of quadtrees: Right of the reference. -/
import Derived.Test.YtbpkmkgnkpeefaaGreatDoorQc
import Derived.Test.YtbpkmkgnkpeefaaGreatDoorSpl
set_option linter.unusedSimpArgs false
set_option linter.unusedVariables false
set_option linter.unusedSectionVars false
set_option maxRecDepth 100000
namespace Go.Mx.Tryz
open Go.Lib Go.Proofs

def rowsQ (l : List Qd) : List (List V) := l.map fun x => [.m (.i .i64 x.a), .m (.i .i64 x.b), .m (.i .i64 x.c), .m (.i .i64 x.d)]
@[simp] theorem rowsQ_len (l : List Qd) : (rowsQ l).length = l.length := by simp [rowsQ]
def OutQ (q : List Qd) (o : V) (H : Hp) : Prop := (q = [] ∧ o = .m (.nl 4) ∧ H = []) ∨ (q ≠ [] ∧ o = .sl 0 q.length 4 0 q.length false ∧ H = [.cs 49 4 (rowsQ q) 0 false])
theorem outQ_push {q : List Qd} {o : V} {H : Hp} (h : OutQ q o H) (hl : q.length ≤ 1000000) (x : Qd) : ∃ o1 H1, (∀ B, appX ⟨B, H⟩ 49 4 32 o [[.m (.i .i64 x.a), .m (.i .i64 x.b), .m (.i .i64 x.c), .m (.i .i64 x.d)]] = some (o1, ⟨B, H1⟩)) ∧ noFaV o1 = true ∧ OutQ (q ++ [x]) o1 H1 := by
 rcases h with ⟨rfl, rfl, rfl⟩ | ⟨hne, rfl, rfl⟩
 ·exact ⟨_, _, fun B => rfl, rfl, .inr ⟨by simp, rfl, rfl⟩⟩
 ·have ha := fun B => app_row (M := ⟨B, [.cs 49 4 (rowsQ q) 0 false]⟩) (r := 0) (bytes := 32) (xs := [[.m (.i .i64 x.a), .m (.i .i64 x.b), .m (.i .i64 x.c), .m (.i .i64 x.d)]]) rfl (by simp) (by simp; omega) rfl
  simp only [rowsQ_len, List.length_cons, List.length_nil, Nat.zero_add, List.set_cons_zero] at ha
  have e : rowsQ q ++ [[.m (.i .i64 x.a), .m (.i .i64 x.b), .m (.i .i64 x.c), .m (.i .i64 x.d)]] = rowsQ (q ++ [x]) := by simp [rowsQ]
  rw [e] at ha
  exact ⟨_, _, ha, rfl, .inr ⟨by simp, by simp, rfl⟩⟩
theorem outQ_one {q : List Qd} {o : V} {H : Hp} (h : OutQ q o H) : oneV o = true ∧ cellsV o = some [o] := by
 rcases h with ⟨rfl, rfl, rfl⟩ | ⟨hne, rfl, rfl⟩ <;> exact ⟨rfl, rfl⟩
theorem optQ (k : Nat) (H : Hp) : ∀ l : List Qd, optMap (fun e => optMap (view (k + 1) H) e) (rowsQ l) = some (cellsQ l)
 | [] => rfl
 | x :: r => by
  show Option.bind (some [I.i .i64 x.a, .i .i64 x.b, .i .i64 x.c, .i .i64 x.d]) _ = _
  simp only [Option.bind_some]
  have := optQ k H r
  show Option.bind (optMap _ (rowsQ r)) _ = _
  rw [this]
  rfl
theorem viewQ {H : Hp} {q : List Qd} (h : nth H 0 = some (.cs 49 4 (rowsQ q) 0 false)) (k : Nat) : view (k + 2) H (.sl 0 q.length 4 0 q.length false) = some (.sl (cellsQ q)) := by
 have e : elems H (.sl 0 q.length 4 0 q.length false) = some (rowsQ q) := by
  show Option.bind (nth H 0) _ = _
  rw [h]
  show gd (Nat.ble 0 q.length && Nat.beq 4 4) (some (((rowsQ q).drop 0).take q.length)) = _
  rw [ble_dec, decide_eq_true (Nat.zero_le _), List.drop_zero, List.take_of_length_le (by simp)]
  rfl
 show Option.bind (elems H (.sl 0 q.length 4 0 q.length false)) _ = _
 rw [e]
 show Option.bind (optMap _ (rowsQ q)) _ = _
 rw [optQ]
 rfl
theorem quad_call {F : Nat} {q : List Qd} {o x : V} {s : Int} {k : I} {H : Hp} (hp : G.prim F = none) (hs : G.sh F = false) (ho : OutQ q o H) (h : ∀ w H, IsSl w (cellsQ q) → Gives G F [.m (.ag [.i .i64 s, w]), .m k] H x H) (hf : flatV x = true) : Gives G F [mkAg [.m (.i .i64 s), o], .m k] H x H := by
 rcases ho with ⟨rfl, rfl, rfl⟩ | ⟨hne, rfl, rfl⟩
 ·exact h _ [] isSl_nil
 ·have em : mkAg [.m (.i .i64 s), V.sl 0 q.length 4 0 q.length false] = .ag [.m (.i .i64 s), V.sl 0 q.length 4 0 q.length false] := rfl
  rw [em]
  refine gives_view (is := [.ag [.i .i64 s, .sl (cellsQ q)], k]) hp hs (h _ [] (isSl_sl _)) ?_ (.inr ⟨by simp [refs, ref1], hf⟩)
  have := viewQ (H := [.cs 49 4 (rowsQ q) 0 false]) (q := q) rfl 17
  show Option.bind (Option.bind (optMap (view 19 [.cs 49 4 (rowsQ q) 0 false]) [.m (.i .i64 s), V.sl 0 q.length 4 0 q.length false]) _) _ = _
  simp only [optMap, this, Option.bind_some]
  rfl
theorem quad_call2 {F : Nat} {q : List Qd} {o : V} {s : Int} {k : I} {H : Hp} {P : Int → Prop} (hp : G.prim F = none) (hs : G.sh F = false) (ho : OutQ q o H) (h : ∀ w H, IsSl w (cellsQ q) → ∃ r, P r ∧ Gives G F [.m (.ag [.i .i64 s, w]), .m k] H (.m (.i .i64 r)) H) : ∃ r, P r ∧ Gives G F [mkAg [.m (.i .i64 s), o], .m k] H (.m (.i .i64 r)) H := by
 rcases ho with ⟨rfl, rfl, rfl⟩ | ⟨hne, rfl, rfl⟩
 ·exact h _ [] isSl_nil
 ·obtain ⟨r, h1, h2⟩ := h (.sl (cellsQ q)) [] (isSl_sl _)
  have em : mkAg [.m (.i .i64 s), V.sl 0 q.length 4 0 q.length false] = .ag [.m (.i .i64 s), V.sl 0 q.length 4 0 q.length false] := rfl
  rw [em]
  refine ⟨r, h1, gives_view (is := [.ag [.i .i64 s, .sl (cellsQ q)], k]) hp hs h2 ?_ (.inr ⟨by simp [refs, ref1], rfl⟩)⟩
  have := viewQ (H := [.cs 49 4 (rowsQ q) 0 false]) (q := q) rfl 17
  show Option.bind (Option.bind (optMap (view 19 [.cs 49 4 (rowsQ q) 0 false]) [.m (.i .i64 s), V.sl 0 q.length 4 0 q.length false]) _) _ = _
  simp only [optMap, this, Option.bind_some]
  rfl
theorem lvQ_nn {s : Int} {l : List Qd} {k : Int} : 0 ≤ lvQ s l k ↔ 0 ≤ k ∧ k < s + (l.length : Int) := by
 unfold lvQ
 have := lvA_0 (s := s) l k
 split <;> omega
theorem good_iff {s : Int} {l : List Qd} {i : Nat} {x : Qd} (hi : i ≤ l.length) : GoodQ s l i x ↔ (0 ≤ lvQ s (l.take i) x.a ∧ lvQ s (l.take i) x.a < 256) ∧ lvQ s (l.take i) x.b = lvQ s (l.take i) x.a ∧ lvQ s (l.take i) x.c = lvQ s (l.take i) x.a ∧ lvQ s (l.take i) x.d = lvQ s (l.take i) x.a ∧ ¬ x ∈ l.take i := by
 have hlen : ((l.take i).length : Int) = i := by rw [List.length_take]; omega
 have e : ∀ k, 0 ≤ lvQ s (l.take i) k → lvQ s (l.take i) k = lvA s (levs s (l.take i)) k := fun k hk => by
  have := lvQ_nn.1 hk
  unfold lvQ
  rw [if_neg (by omega)]
 have hr : ∀ k, 0 ≤ lvQ s (l.take i) k ↔ 0 ≤ k ∧ k < s + (i : Int) := fun k => by rw [lvQ_nn, hlen]
 unfold GoodQ inR eqL Qd.ks
 simp only [List.mem_cons, List.not_mem_nil, or_false, forall_eq_or_imp, forall_eq]
 constructor
 ·rintro ⟨⟨h1, h2, h3, h4⟩, ⟨_, h5, h6, h7⟩, h8, h9⟩
  have a1 := (hr _).2 h1
  have a2 := (hr _).2 h2
  have a3 := (hr _).2 h3
  have a4 := (hr _).2 h4
  rw [e _ a1, e _ a2, e _ a3, e _ a4]
  exact ⟨⟨lvA_0 _ _, h8⟩, h5, h6, h7, h9⟩
 ·rintro ⟨⟨a1, h8⟩, h5, h6, h7, h9⟩
  have a2 : 0 ≤ lvQ s (l.take i) x.b := by omega
  have a3 : 0 ≤ lvQ s (l.take i) x.c := by omega
  have a4 : 0 ≤ lvQ s (l.take i) x.d := by omega
  rw [e _ a1, e _ a2] at h5
  rw [e _ a1, e _ a3] at h6
  rw [e _ a1, e _ a4] at h7
  rw [e _ a1] at h8
  exact ⟨⟨(hr _).1 a1, (hr _).1 a2, (hr _).1 a3, (hr _).1 a4⟩, ⟨trivial, h5, h6, h7⟩, h8, h9⟩
theorem okQ_take {s : Int} {l : List Qd} {i : Nat} (h : okQ s l i = true) (hi : i ≤ l.length) : okQ s (l.take i) (l.take i).length = true := by
 have hlen : (l.take i).length = i := by rw [List.length_take]; omega
 rw [hlen]
 unfold okQ at *
 rw [List.all_eq_true] at *
 intro j hj
 have := h j hj
 have hj := List.mem_range.1 hj
 rw [List.getElem?_take, if_pos hj]
 cases hx : l[j]? with
 | none => rfl
 | some x =>
  rw [hx] at this
  have e : GoodQ s (l.take i) j x ↔ GoodQ s l j x := by
   unfold GoodQ
   rw [List.take_take, Nat.min_eq_left (by omega)]
  show decide (GoodQ s (l.take i) j x) = true
  rw [decide_eq_true_eq, e]
  exact of_decide_eq_true this
set_option maxHeartbeats 4000000 in
theorem right_25 {v : I} {s : Int} {l : List Qd} (hv : IsSl v (cellsQ l)) (hl : l.length ≤ 100000) (H : Hp) : Gives G 9 [.m (.ag [.i .i64 s, v])] H (.m (.b (rightQ s l))) H := by
 have hrv := hv.rules
 simp only [cellsQ_len] at hrv
 have hv1 := isSl_q hv
 have hl2 : (l.length : Int) ≤ 100000 := by omega
 have eR : rightQ s l = (!decide (s < 2 ∨ 8 < s) && okQ s l l.length) := by unfold rightQ; rw [decide_eq_false (by omega : ¬ 100000 < l.length)]; rfl
 have key : ∃ x H', Gives G 9 [.m (.ag [.i .i64 s, v])] H x H' ∧ (H' = H ∧ x = .m (.b (rightQ s l))) := by
  refine gives_of_ret ?_
  refine ret_pur rfl rfl rfl rfl rfl ?_
  generalize hQ : (fun (x : V) (H' : Hp) => H' = H ∧ x = .m (.b (rightQ s l))) = Q
  have qk : ∀ b, rightQ s l = b → Q (.m (.b b)) H := fun b hh => by rw [← hQ, hh]; exact ⟨rfl, rfl⟩
  clear hQ
  by_cases h2 : s < 2
  ·have k := qk false (by rw [eR, decide_eq_true (.inl h2)]; rfl)
   simp (maxSteps := 2000000) (disch := omega) [gd_in, gd_and, wr_i64, hv1, hrv, h2]
   exact k
  by_cases h8 : 8 < s
  ·have k := qk false (by rw [eR, decide_eq_true (.inr h8)]; rfl)
   simp (maxSteps := 2000000) (disch := omega) [gd_in, gd_and, wr_i64, hv1, hrv, h2, h8]
   exact k
  have eR : rightQ s l = okQ s l l.length := by rw [eR, decide_eq_false (by omega)]; rfl
  have hl3 : ¬ 100000 < (l.length : Int) := by omega
  have hl4 : ¬ 100000 < l.length := by omega
  simp (maxSteps := 2000000) (disch := omega) [gd_in, gd_and, wr_i64, hv1, hrv, h2, h8, hl3, hl4]
  refine (?key : ∀ (i : Nat) (o : V) (B : List (Nat × List V)) (H1 : Hp), i ≤ l.length → getB B 1 = some [.m (.i .i64 s), .m v] → getB B 3 = some [.m (.i .i64 s), o] → okQ s l i = true → OutQ (l.take i) o H1 → Run G c9_B0 (S9_0 (.fa 1 0) (.fa 3 0) (.m (.i .i64 (i : Int))) B H1) _) 0 (.m (.nl 4)) _ _ (Nat.zero_le _) rfl rfl rfl (.inl ⟨rfl, rfl, rfl⟩)
  refine indM (fun i : Nat => l.length - i) fun i ih o B H1 hi hB1 hB3 hok ho => ?_
  unfold c9_B0
  cases hx : l[i]? with
  | none =>
   have : i = l.length := by have := List.getElem?_eq_none_iff.1 hx; omega
   subst this
   have k := qk true (by rw [eR, hok])
   simp (maxSteps := 2000000) (disch := omega) [gd_in, gd_and, wr_i64, hrv, hB1, hB3]
   exact k
  | some x =>
   have hlt := (List.getElem?_eq_some_iff.1 hx).1
   have hlt' : (i : Int) < l.length := by omega
   have hn := cellsQ_nth hx
   have wi : wr .i64 ((i : Int) + 1) = ((i + 1 : Nat) : Int) := wr_i64 (by omega) (by omega)
   have hokt := okQ_take hok hi
   have hlq : (l.take i).length ≤ 100000 := by rw [List.length_take]; omega
   have gl := fun k => quad_call (F := 27) (s := s) (k := .i .i64 k) rfl rfl ho (fun w H hw => level_25 hw (by omega) hlq hokt k H) rfl
   have hgi := good_iff (s := s) (x := x) hi
   have hsucc := okQ_succ (s := s) hx
   rw [hok, Bool.true_and] at hsucc
   have hbad : ¬ GoodQ s l i x → rightQ s l = false := fun hn => by
    rw [eR]
    cases hk : okQ s l l.length with
    | false => rfl
    | true => exact absurd (okQ_get hk hlt hx) hn
   have em : mkAg [.m (.i .i64 x.a), .m (.i .i64 x.b), .m (.i .i64 x.c), .m (.i .i64 x.d)] = .m (.ag [.i .i64 x.a, .i .i64 x.b, .i .i64 x.c, .i .i64 x.d]) := rfl
   obtain ⟨pt, hpt⟩ : ∃ pt, mkAg [.m (.i .i64 s), o] = pt := ⟨_, rfl⟩
   rw [hpt] at gl
   have ga := fun (_ : Unit) => gl x.a
   have gb := fun (_ : Unit) => gl x.b
   have gc := fun (_ : Unit) => gl x.c
   have gd4 := fun (_ : Unit) => gl x.d
   obtain ⟨r, hr, gf⟩ := quad_call2 (F := 28) (s := s) (k := .ag [.i .i64 x.a, .i .i64 x.b, .i .i64 x.c, .i .i64 x.d]) (P := fun r => 0 ≤ r ↔ x ∈ l.take i) rfl rfl ho (fun w H hw => find_25 hw hlq x H)
   rw [hpt] at gf
   obtain ⟨o1, H2, hap, hn1, ho1⟩ := outQ_push ho (by omega) x
   have htk : l.take i ++ [x] = l.take (i + 1) := by rw [List.take_add_one, hx]; rfl
   rw [htk] at ho1
   generalize lvQ s (l.take i) x.a = A at *
   by_cases a1 : A < 0
   ·have k := qk false (hbad fun hg => by have := (hgi.1 hg).1; omega)
    simp (maxSteps := 2000000) (disch := omega) [gd_in, gd_and, wr_i64, gcall_cx, hrv, hlt, hlt', hn, hB1, hB3, em, hpt, cl (ga ()), a1, -mkAg_eq]
    exact k
   by_cases a2 : 256 ≤ A
   ·have k := qk false (hbad fun hg => by have := (hgi.1 hg).1; omega)
    simp (maxSteps := 2000000) (disch := omega) [gd_in, gd_and, wr_i64, gcall_cx, hrv, hlt, hlt', hn, hB1, hB3, em, hpt, cl (ga ()), a1, a2, -mkAg_eq]
    exact k
   generalize lvQ s (l.take i) x.b = A2 at *
   by_cases a3 : A2 = A
   rotate_left
   ·have k := qk false (hbad fun hg => a3 (hgi.1 hg).2.1)
    simp (maxSteps := 2000000) (disch := omega) [gd_in, gd_and, wr_i64, gcall_cx, hrv, hlt, hlt', hn, hB1, hB3, em, hpt, cl (ga ()), cl (gb ()), a1, a2, a3, -mkAg_eq]
    exact k
   subst a3
   generalize lvQ s (l.take i) x.c = A3 at *
   by_cases a4 : A3 = A2
   rotate_left
   ·have k := qk false (hbad fun hg => a4 (hgi.1 hg).2.2.1)
    simp (maxSteps := 2000000) (disch := omega) [gd_in, gd_and, wr_i64, gcall_cx, hrv, hlt, hlt', hn, hB1, hB3, em, hpt, cl (ga ()), cl (gb ()), cl (gc ()), a1, a2, a4, -mkAg_eq]
    exact k
   subst a4
   generalize lvQ s (l.take i) x.d = A4 at *
   by_cases a5 : A4 = A3
   rotate_left
   ·have k := qk false (hbad fun hg => a5 (hgi.1 hg).2.2.2.1)
    simp (maxSteps := 2000000) (disch := omega) [gd_in, gd_and, wr_i64, gcall_cx, hrv, hlt, hlt', hn, hB1, hB3, em, hpt, cl (ga ()), cl (gb ()), cl (gc ()), cl (gd4 ()), a1, a2, a5, -mkAg_eq]
    exact k
   subst a5
   by_cases a6 : 0 ≤ r
   ·have k := qk false (hbad fun hg => (hgi.1 hg).2.2.2.2 (hr.1 a6))
    simp (maxSteps := 2000000) (disch := omega) [gd_in, gd_and, wr_i64, gcall_cx, hrv, hlt, hlt', hn, hB1, hB3, em, hpt, cl (ga ()), cl (gb ()), cl (gc ()), cl (gd4 ()), a1, a2, cl gf, a6, -mkAg_eq]
    exact k
   have hgood : GoodQ s l i x := hgi.2 ⟨by omega, rfl, rfl, rfl, fun hm => a6 (hr.2 hm)⟩
   rw [decide_eq_true hgood] at hsucc
   have hone := outQ_one ho1
   have k := fun B' => ih (i + 1) (by omega) o1 B' H2 (by omega)
   simp (maxSteps := 2000000) (disch := omega) [gd_in, gd_and, wr_i64, gcall_cx, hrv, hlt, hlt', hn, hB1, hB3, em, hpt, cl (ga ()), cl (gb ()), cl (gc ()), cl (gd4 ()), a1, a2, cl gf, a6, hap, wi, hone.1, hone.2, -mkAg_eq, -Int.natCast_add]
   exact k _ (by simpa using hB1) (by simp) hsucc ho1
 obtain ⟨x, H', h1, rfl, rfl⟩ := key
 exact h1
end Go.Mx.Tryz
