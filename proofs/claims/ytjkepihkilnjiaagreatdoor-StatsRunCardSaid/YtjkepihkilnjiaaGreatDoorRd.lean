/- Fields of the reference: the positions near a pattern. -/
import Derived.Test.YtjkepihkilnjiaaGreatDoorRc
set_option linter.unusedSimpArgs false
set_option linter.unusedVariables false
set_option linter.unusedSectionVars false
set_option maxRecDepth 100000
namespace Go.Mx.Tryz
open Go.Lib Go.Proofs

theorem setEl_l2 {α : Type} (l : List α) (x y : α) : setEl (l ++ [x]) l.length y = some (l ++ [y]) := by
 rw [setEl_put _ _ _ (by simp)]
 simp
theorem nth_l2 {α : Type} (l : List α) (x : α) : nth (l ++ [x]) l.length = some x := by rw [nth_get]; simp
def rows2 (l : List (Int × Int)) : List (List V) := l.map fun p => [.m (.i .i64 p.1), .m (.i .i64 p.2)]
@[simp] theorem rows2_len (l : List (Int × Int)) : (rows2 l).length = l.length := by simp [rows2]
def z2 (l : List (Int × Int)) : I := if l = [] then .nl 4 else .sl (cells2 l)
theorem z2_sl (l : List (Int × Int)) : IsSl (z2 l) (cells2 l) := by
 unfold z2
 split
 ·rename_i h; subst h; exact isSl_nil
 ·exact isSl_sl _
def OutA (acc : List (Int × Int)) (o : V) (H : Hp) : Prop := (acc = [] ∧ o = .m (.nl 4)) ∨ (acc ≠ [] ∧ ∃ r, o = .sl r acc.length 2 0 acc.length false ∧ nth H r = some (.cs 40 2 (rows2 acc) 0 false))
theorem outA_push {acc : List (Int × Int)} {o : V} {H : Hp} (h : OutA acc o H) (hl : acc.length ≤ 1000000) (x y : Int) : ∃ o1 H1, (∀ B, appX ⟨B, H⟩ 40 2 16 o [[.m (.i .i64 x), .m (.i .i64 y)]] = some (o1, ⟨B, H1⟩)) ∧ noFaV o1 = true ∧ OutA (acc ++ [(x, y)]) o1 H1 := by
 rcases h with ⟨rfl, rfl⟩ | ⟨hne, r, rfl, h1⟩
 ·refine ⟨.sl H.length 1 2 0 1 false, H ++ [.cs 40 2 (rows2 [(x, y)]) 0 false], fun B => rfl, rfl, .inr ⟨by simp, H.length, rfl, nl_end H _ 0⟩⟩
 ·have ha := fun B => app_row (M := ⟨B, H⟩) (r := r) (bytes := 16) (xs := [[.m (.i .i64 x), .m (.i .i64 y)]]) h1 (by simp) (by simp; omega) rfl
  have es : rows2 acc ++ [[V.m (.i .i64 x), .m (.i .i64 y)]] = rows2 (acc ++ [(x, y)]) := by simp [rows2]
  simp only [rows2_len, List.length_cons, List.length_nil, Nat.zero_add, es] at ha
  refine ⟨_, _, ha, rfl, .inr ⟨by simp, r, by simp, ?_⟩⟩
  exact nl_set_eq (nl_lt h1)
theorem outA_more {acc : List (Int × Int)} {o : V} {H : Hp} (h : OutA acc o H) (x : Row) : OutA acc o (H ++ [x]) := by
 rcases h with h | ⟨hne, r, h1, h2⟩
 ·exact .inl h
 ·exact .inr ⟨hne, r, h1, by rw [nl_app _ _ _ (nl_lt h2)]; exact h2⟩
theorem opt2 (k : Nat) (H : Hp) : ∀ l : List (Int × Int), optMap (fun e => optMap (view (k + 1) H) e) (rows2 l) = some (cells2 l)
 | [] => rfl
 | x :: r => by
  show Option.bind (some [I.i .i64 x.1, .i .i64 x.2]) _ = _
  simp only [Option.bind_some]
  have := opt2 k H r
  show Option.bind (optMap _ (rows2 r)) _ = _
  rw [this]
  rfl
theorem view2 {H : Hp} {r : Nat} {f : List (Int × Int)} (h : nth H r = some (.cs 40 2 (rows2 f) 0 false)) (k : Nat) : view (k + 2) H (.sl r f.length 2 0 f.length false) = some (.sl (cells2 f)) := by
 have e : elems H (.sl r f.length 2 0 f.length false) = some (rows2 f) := by
  show Option.bind (nth H r) _ = _
  rw [h]
  show gd (Nat.ble 0 f.length && Nat.beq 2 2) (some (((rows2 f).drop 0).take f.length)) = _
  rw [ble_dec, decide_eq_true (Nat.zero_le _), List.drop_zero, List.take_of_length_le (by simp)]
  rfl
 show Option.bind (elems H (.sl r f.length 2 0 f.length false)) _ = _
 rw [e]
 show Option.bind (optMap _ (rows2 f)) _ = _
 rw [opt2]
 rfl
theorem outA_view {acc : List (Int × Int)} {o : V} {H : Hp} (h : OutA acc o H) : view 20 H o = some (z2 acc) ∧ noFaV o = true := by
 rcases h with ⟨rfl, rfl⟩ | ⟨hne, r, rfl, h1⟩
 ·exact ⟨rfl, rfl⟩
 ·refine ⟨?_, rfl⟩
  unfold z2
  rw [if_neg hne]
  exact view2 h1 18
theorem outA_vr {acc : List (Int × Int)} {o : V} {H : Hp} (h : OutA acc o H) : viewR H o = some (.m (z2 acc)) := by
 have hv := (outA_view h).1
 rcases h with ⟨rfl, rfl⟩ | ⟨hne, r, rfl, h1⟩
 ·rfl
 ·show (view 20 _ _).bind _ = _
  rw [hv]
  rfl
def nr (c : Ce) (k : Int × Int) : Prop := (-2 ≤ k.1 - c.x ∧ k.1 - c.x ≤ 2) ∧ (-2 ≤ k.2 - c.y ∧ k.2 - c.y ≤ 2)
instance (c : Ce) (k : Int × Int) : Decidable (nr c k) := by unfold nr; infer_instance
def nrs (p : List Ce) (i : Nat) (k : Int × Int) : Prop := ∃ c, c ∈ p.take i ∧ nr c k
theorem nrs_snoc {p : List Ce} {i : Nat} {c : Ce} (hx : p[i]? = some c) (k : Int × Int) : nrs p (i + 1) k ↔ nrs p i k ∨ nr c k := by
 unfold nrs
 rw [take_succ_get hx]
 constructor
 ·rintro ⟨d, hd, h⟩
  rcases List.mem_append.1 hd with hd | hd
  ·exact .inl ⟨d, hd, h⟩
  ·rw [List.mem_singleton.1 hd] at h; exact .inr h
 ·rintro (⟨d, hd, h⟩ | h)
  ·exact ⟨d, by simp [hd], h⟩
  ·exact ⟨c, by simp, h⟩
structure NearQ (p : List Ce) (acc : List (Int × Int)) : Prop where
 nd : acc.Nodup
 all : ∀ c k, c ∈ p → nr c k → k ∈ acc
 len : acc.length ≤ 1000000
 bnd : ∀ k, k ∈ acc → (-4000000 ≤ k.1 ∧ k.1 ≤ 4000000) ∧ (-4000000 ≤ k.2 ∧ k.2 ≤ 4000000)
set_option maxHeartbeats 2000000 in
theorem earlier_r {p : List Ce} {v : I} {fl : Bool} {bx by_ w h : Int} {cs : I} (hv : IsSl v (cells3 p)) (hl : p.length ≤ 5000) (hg : ∀ c, c ∈ p → good c = true) (i : Nat) (hi : i ≤ p.length) (k : Int × Int) (hk : (-4000000 ≤ k.1 ∧ k.1 ≤ 4000000) ∧ (-4000000 ≤ k.2 ∧ k.2 ≤ 4000000)) (H : Hp) : ∃ b, (b = true ↔ nrs p i k) ∧ Gives G 67 [.m (fldI fl bx by_ w h cs v), .m (.i .i64 (i : Int)), .m (.ag [.i .i64 k.1, .i .i64 k.2])] H (.m (.b b)) H := by
 have hrv := hv.rules
 simp only [show (cells3 p).length = p.length from by simp [cells3]] at hrv
 have key : ∃ x H', Gives G 67 [.m (fldI fl bx by_ w h cs v), .m (.i .i64 (i : Int)), .m (.ag [.i .i64 k.1, .i .i64 k.2])] H x H' ∧ (H' = H ∧ ∃ b, (b = true ↔ nrs p i k) ∧ x = .m (.b b)) := by
  refine gives_of_ret ?_
  refine ret_pur rfl rfl rfl rfl rfl ?_
  generalize hQ : (fun (x : V) (H' : Hp) => H' = H ∧ ∃ b, (b = true ↔ nrs p i k) ∧ x = .m (.b b)) = Q
  have qt : nrs p i k → Q (.m (.b true)) H := fun hh => by rw [← hQ]; exact ⟨rfl, true, ⟨fun _ => hh, fun _ => rfl⟩, rfl⟩
  have qf : ¬ nrs p i k → Q (.m (.b false)) H := fun hh => by rw [← hQ]; exact ⟨rfl, false, ⟨fun h => (by cases h), fun h => absurd h hh⟩, rfl⟩
  clear hQ
  unfold fldI
  simp (maxSteps := 2000000) (disch := omega) [gd_in, gd_and, wr_i64, ]
  refine (?key : ∀ (j : Nat) (B : List (Nat × List V)), j ≤ i → getB B 3 = some [.m (.b fl), .m (.i .i64 bx), .m (.i .i64 by_), .m (.i .i64 w), .m (.i .i64 h), .m cs, .m v] → getB B 5 = some [.m (.i .i64 k.1), .m (.i .i64 k.2)] → ¬ nrs p j k → Run G c67_B0 (S67_0 (.m (.i .i64 (i : Int))) (.fa 3 0) (.fa 5 0) (.m (.i .i64 (j : Int))) B []) _) 0 _ (Nat.zero_le _) rfl rfl (fun ⟨c, hc, _⟩ => by simp at hc)
  refine indM (fun j : Nat => i - j) fun j ih B hj hB3 hB5 hno => ?_
  unfold c67_B0
  by_cases hji : j < i
  ·have hji2 : (j : Int) < i := by omega
   obtain ⟨c, hx⟩ : ∃ c, p[j]? = some c := ⟨_, List.getElem?_eq_getElem (by omega)⟩
   have hlt := (get_drop hx).1
   have hlt' : (j : Int) < p.length := by omega
   have hn := cells3_nth hx
   have hcb : (-1048576 ≤ c.x ∧ c.x ≤ 1048576) ∧ (-1048576 ≤ c.y ∧ c.y ≤ 1048576) := by
    have := hg c (List.mem_of_getElem? hx)
    unfold good placed at this
    simp only [Bool.and_eq_true, decide_eq_true_eq] at this
    omega
   obtain ⟨dx, hdx⟩ : ∃ dx, dx = k.1 - c.x := ⟨_, rfl⟩
   obtain ⟨dy, hdy⟩ : ∃ dy, dy = k.2 - c.y := ⟨_, rfl⟩
   have w1 : wr .i64 (k.1 - c.x) = dx := by rw [hdx]; exact wr_i64 (by omega) (by omega)
   have w2 : wr .i64 (k.2 - c.y) = dy := by rw [hdy]; exact wr_i64 (by omega) (by omega)
   have w3 : wr .i64 (-dx) = -dx := wr_i64 (by omega) (by omega)
   have w4 : wr .i64 (-dy) = -dy := wr_i64 (by omega) (by omega)
   have wj : wr .i64 ((j : Int) + 1) = ((j + 1 : Nat) : Int) := wr_i64 (by omega) (by omega)
   have hnr : nr c k ↔ max dx (-dx) ≤ 2 ∧ max dy (-dy) ≤ 2 := by
    unfold nr
    rw [← hdx, ← hdy]
    omega
   have hsn := nrs_snoc hx k
   by_cases h1 : max dx (-dx) ≤ 2
   ·by_cases h2 : max dy (-dy) ≤ 2
    ·have k1 := qt (by
      obtain ⟨d, hd, hh⟩ := hsn.2 (.inr (hnr.2 ⟨h1, h2⟩))
      refine ⟨d, ?_, hh⟩
      obtain ⟨m, hm⟩ := List.mem_iff_getElem?.1 hd
      have hml := (get_drop hm).1
      rw [List.length_take] at hml
      rw [List.getElem?_take] at hm
      split at hm
      ·exact List.mem_iff_getElem?.2 ⟨m, by rw [List.getElem?_take, if_pos (by omega)]; exact hm⟩
      ·cases hm)
     simp (maxSteps := 2000000) (disch := omega) [gd_in, gd_and, wr_i64, hrv, hji2, hlt, hlt', hn, hB3, hB5, w1, w2, w3, w4, h1, h2]
     exact k1
    ·have k1 := ih (j + 1) (by omega) B (by omega) hB3 hB5 (fun hh => (hsn.1 hh).elim hno fun h => h2 (hnr.1 h).2)
     simp (maxSteps := 2000000) (disch := omega) [gd_in, gd_and, wr_i64, hrv, hji2, hlt, hlt', hn, hB3, hB5, w1, w2, w3, w4, h1, h2, wj, -Int.natCast_add]
     exact k1
   ·have k1 := ih (j + 1) (by omega) B (by omega) hB3 hB5 (fun hh => (hsn.1 hh).elim hno fun h => h1 (hnr.1 h).1)
    simp (maxSteps := 2000000) (disch := omega) [gd_in, gd_and, wr_i64, hrv, hji2, hlt, hlt', hn, hB3, hB5, w1, w2, w3, w4, h1, wj, -Int.natCast_add]
    exact k1
  ·have : j = i := by omega
   subst this
   have k1 := qf hno
   simp (maxSteps := 2000000) (disch := omega) [gd_in, gd_and, wr_i64, ]
   exact k1
 obtain ⟨x, H', h1, rfl, b, h2, rfl⟩ := key
 exact ⟨b, h2, h1⟩
set_option maxHeartbeats 4000000 in
theorem near_fl {p : List Ce} {v : I} {bx by_ : Int} {w h : Nat} {cs : I} (hwh : (w + 4) * (h + 4) ≤ 1000000) (hw4 : w ≤ 1000000 ∧ h ≤ 1000000) (hbx : -1048576 ≤ bx ∧ bx ≤ 1048576) (hby : -1048576 ≤ by_ ∧ by_ ≤ 1048576) (hin : ∀ c, c ∈ p → (bx ≤ c.x ∧ c.x < bx + w) ∧ (by_ ≤ c.y ∧ c.y < by_ + h)) (H : Hp) :
  ∃ acc, NearQ p acc ∧ Gives G 53 [.m (fldI true bx by_ w h cs v)] H (.m (z2 acc)) H := by
 have key : ∃ x H', Gives G 53 [.m (fldI true bx by_ w h cs v)] H x H' ∧ (H' = H ∧ ∃ acc, NearQ p acc ∧ x = .m (z2 acc)) := by
  refine gives_of_ret ?_
  refine ret_pur rfl rfl rfl rfl rfl ?_
  generalize hQ : (fun (x : V) (H' : Hp) => H' = H ∧ ∃ acc, NearQ p acc ∧ x = .m (z2 acc)) = Q
  have qk : ∀ acc, NearQ p acc → Q (.m (z2 acc)) H := fun acc hh => by rw [← hQ]; exact ⟨rfl, acc, hh, rfl⟩
  clear hQ
  have y0 : wr .i64 (by_ - 2) = by_ - 2 := wr_i64 (by omega) (by omega)
  have x0 : wr .i64 (bx - 2) = bx - 2 := wr_i64 (by omega) (by omega)
  have yh : wr .i64 (by_ + (h : Int)) = by_ + h := wr_i64 (by omega) (by omega)
  have yh2 : wr .i64 (by_ + (h : Int) + 2) = by_ + h + 2 := wr_i64 (by omega) (by omega)
  have xw : wr .i64 (bx + (w : Int)) = bx + w := wr_i64 (by omega) (by omega)
  have xw2 : wr .i64 (bx + (w : Int) + 2) = bx + w + 2 := wr_i64 (by omega) (by omega)
  unfold fldI
  simp (maxSteps := 2000000) (disch := omega) [gd_in, gd_and, wr_i64, y0]
  refine (?key : ∀ (r : Nat) (yy : Int) (acc : List (Int × Int)) (o : V) (B : List (Nat × List V)) (H1 : Hp), r ≤ h + 4 → yy = by_ - 2 + (r : Int) → getB B 1 = some [.m (.b true), .m (.i .i64 bx), .m (.i .i64 by_), .m (.i .i64 w), .m (.i .i64 h), .m cs, .m v] → acc.Nodup → (∀ u z, (u, z) ∈ acc ↔ (bx - 2 ≤ u ∧ u < bx + w + 2) ∧ (by_ - 2 ≤ z ∧ z < by_ - 2 + r)) → acc.length = r * (w + 4) → OutA acc o H1 → Run G c53_B1 (S53_1 (.fa 1 0) o (.m (.i .i64 yy)) B H1) _) 0 (by_ - 2) [] _ _ _ (Nat.zero_le _) (by simp) rfl .nil (fun u z => ⟨fun h => by simp at h, fun h => by omega⟩) (by simp) (.inl ⟨rfl, rfl⟩)
  refine indM (fun r : Nat => h + 4 - r) fun r ih yy acc o B H1 hr hyy hB hnd hmem hlen ho => ?_
  unfold c53_B1
  obtain ⟨hvw, hnf⟩ := outA_view ho
  by_cases hrh : r < h + 4
  ·have t1 : yy < by_ + h + 2 := by omega
   have wr1 : wr .i64 (yy + 1) = yy + 1 := wr_i64 (by omega) (by omega)
   simp (maxSteps := 2000000) (disch := omega) [gd_in, gd_and, wr_i64, hB, yh, yh2, t1, x0]
   refine (?key2 : ∀ (q : Nat) (xx : Int) (acc : List (Int × Int)) (o : V) (B : List (Nat × List V)) (H1 : Hp), q ≤ w + 4 → xx = bx - 2 + (q : Int) → getB B 1 = some [.m (.b true), .m (.i .i64 bx), .m (.i .i64 by_), .m (.i .i64 w), .m (.i .i64 h), .m cs, .m v] → acc.Nodup → (∀ u z, (u, z) ∈ acc ↔ ((bx - 2 ≤ u ∧ u < bx + w + 2) ∧ (by_ - 2 ≤ z ∧ z < by_ - 2 + r)) ∨ (z = by_ - 2 + r ∧ (bx - 2 ≤ u ∧ u < bx - 2 + q))) → acc.length = r * (w + 4) + q → OutA acc o H1 → Run G c53_B0 (S53_0 (.fa 1 0) o (.m (.i .i64 yy)) (.m (.i .i64 xx)) B H1) _) 0 (bx - 2) acc o _ H1 (Nat.zero_le _) (by simp) hB hnd (fun u z => (hmem u z).trans ⟨fun h => .inl h, fun h => h.elim id fun h => by omega⟩) (by omega) ho
   clear hvw hnf hmem hnd hlen ho hB acc o B H1
   refine indM (fun q : Nat => w + 4 - q) fun q ihq xx acc o B H1 hq hxx hB hnd hmem hlen ho => ?_
   unfold c53_B0
   obtain ⟨hvw, hnf⟩ := outA_view ho
   by_cases hqw : q < w + 4
   ·have t2 : xx < bx + w + 2 := by omega
    have wq1 : wr .i64 (xx + 1) = xx + 1 := wr_i64 (by omega) (by omega)
    have hlb : acc.length ≤ 1000000 := by
     have h1 : r * (w + 4) + (w + 4) ≤ (w + 4) * (h + 4) := by
      rw [Nat.mul_comm (w + 4) (h + 4), ← Nat.succ_mul]
      exact Nat.mul_le_mul_right _ hrh
     omega
    obtain ⟨o1, H2, hap, hn1, ho1⟩ := outA_push ho hlb xx yy
    have k := ihq (q + 1) (by omega) (xx + 1) (acc ++ [(xx, yy)]) o1 B H2 (by omega) (by omega) hB (by
     rw [List.nodup_append]
     refine ⟨hnd, by simp, fun a ha b hb => ?_⟩
     rw [List.mem_singleton.1 hb]
     intro e
     subst e
     have := (hmem _ _).1 ha
     omega) (fun u z => by
     rw [List.mem_append, List.mem_singleton, hmem, Prod.mk.injEq]
     constructor
     ·rintro ((h1 | h1) | h1)
      ·exact .inl h1
      ·exact .inr (by omega)
      ·exact .inr (by omega)
     ·rintro (h1 | h1)
      ·exact .inl (.inl h1)
      ·by_cases hu : u < bx - 2 + q
       ·exact .inl (.inr (by omega))
       ·exact .inr (by omega)) (by simp; omega) ho1
    simp (maxSteps := 2000000) (disch := omega) [gd_in, gd_and, wr_i64, hB, xw, xw2, t2, hap, wq1, setC_v hnf, setC_v hn1, -Int.natCast_add]
    exact k
   ·have : q = w + 4 := by omega
    subst this
    have t2 : ¬ xx < bx + w + 2 := by omega
    have k := ih (r + 1) (by omega) (yy + 1) acc o B H1 (by omega) (by omega) hB hnd (fun u z => (hmem u z).trans (by
     constructor
     ·rintro (h1 | h1)
      ·omega
      ·omega
     ·intro h1
      by_cases hz : z < by_ - 2 + r
      ·exact .inl (by omega)
      ·exact .inr (by omega))) (by rw [hlen, Nat.succ_mul]) ho
    simp (maxSteps := 2000000) (disch := omega) [gd_in, gd_and, wr_i64, hB, xw, xw2, t2, wr1, setC_v hnf, -Int.natCast_add]
    exact k
  ·have : r = h + 4 := by omega
   subst this
   have t1 : ¬ yy < by_ + h + 2 := by omega
   have k := qk acc ⟨hnd, fun c k hc hk => by
    have := hin c hc
    obtain ⟨a, b⟩ := k
    unfold nr at hk
    dsimp only at hk
    exact (hmem a b).2 (by omega), by rw [hlen, Nat.mul_comm]; omega, fun k hk => by
    obtain ⟨a, b⟩ := k
    have := (hmem a b).1 hk
    dsimp only
    omega⟩
   have hvr := outA_vr ho
   simp (maxSteps := 2000000) (disch := omega) [gd_in, gd_and, wr_i64, hB, yh, yh2, t1, setC_v hnf, hvw, hvr, -Int.natCast_add]
   first | exact k | exact ⟨hnf, k⟩
 obtain ⟨x, H', h1, rfl, acc, h2, rfl⟩ := key
 exact ⟨acc, h2, h1⟩
set_option maxHeartbeats 4000000 in
theorem near_no {p : List Ce} {v : I} {bx by_ w h : Int} {cs : I} (hv : IsSl v (cells3 p)) (hl : p.length ≤ 5000) (hg : ∀ c, c ∈ p → good c = true) (H : Hp) :
  ∃ acc, NearQ p acc ∧ Gives G 53 [.m (fldI false bx by_ w h cs v)] H (.m (z2 acc)) H := by
 have hrv := hv.rules
 simp only [show (cells3 p).length = p.length from by simp [cells3]] at hrv
 have ge := fun i hi k hk H => earlier_r (fl := false) (bx := bx) (by_ := by_) (w := w) (h := h) (cs := cs) hv hl hg i hi k hk H
 have key : ∃ x H', Gives G 53 [.m (fldI false bx by_ w h cs v)] H x H' ∧ (H' = H ∧ ∃ acc, NearQ p acc ∧ x = .m (z2 acc)) := by
  refine gives_of_ret ?_
  refine ret_pur rfl rfl rfl rfl rfl ?_
  generalize hQ : (fun (x : V) (H' : Hp) => H' = H ∧ ∃ acc, NearQ p acc ∧ x = .m (z2 acc)) = Q
  have qk : ∀ acc, NearQ p acc → Q (.m (z2 acc)) H := fun acc hh => by rw [← hQ]; exact ⟨rfl, acc, hh, rfl⟩
  clear hQ
  unfold fldI at ge ⊢
  simp (maxSteps := 2000000) (disch := omega) [gd_in, gd_and, wr_i64, ]
  refine (?key : ∀ (i : Nat) (acc : List (Int × Int)) (o : V) (B : List (Nat × List V)) (H1 : Hp), i ≤ p.length → getB B 1 = some [.m (.b false), .m (.i .i64 bx), .m (.i .i64 by_), .m (.i .i64 w), .m (.i .i64 h), .m cs, .m v] → acc.Nodup → (∀ k, k ∈ acc ↔ nrs p i k) → acc.length ≤ 25 * i → OutA acc o H1 → Run G c53_B4 (S53_4 (.fa 1 0) o (.m (.i .i64 (i : Int))) B H1) _) 0 [] _ _ _ (Nat.zero_le _) rfl .nil (fun k => ⟨fun h => by simp at h, fun ⟨c, hc, _⟩ => by simp at hc⟩) (by simp) (.inl ⟨rfl, rfl⟩)
  refine indM (fun i : Nat => p.length - i) fun i ih acc o B H1 hi hB hnd hmem hlen ho => ?_
  unfold c53_B4
  obtain ⟨hvw, hnf⟩ := outA_view ho
  cases hx : p[i]? with
  | none =>
   have : i = p.length := by have := List.getElem?_eq_none_iff.1 hx; omega
   subst this
   have hvr := outA_vr ho
   have k := qk acc ⟨hnd, fun c k hc hk => (hmem k).2 ⟨c, by rw [List.take_length]; exact hc, hk⟩, by omega, fun k hk => by
    obtain ⟨c, hc, hn⟩ := (hmem k).1 hk
    rw [List.take_length] at hc
    have := hg c hc
    unfold good placed at this
    simp only [Bool.and_eq_true, decide_eq_true_eq] at this
    unfold nr at hn
    omega⟩
   simp (maxSteps := 2000000) (disch := omega) [gd_in, gd_and, wr_i64, hrv, hB, setC_v hnf, hvw, hvr]
   first | exact k | exact ⟨hnf, k⟩
  | some c =>
   have hlt := (get_drop hx).1
   have hlt' : (i : Int) < p.length := by omega
   have hn := cells3_nth hx
   have wi : wr .i64 ((i : Int) + 1) = ((i + 1 : Nat) : Int) := wr_i64 (by omega) (by omega)
   have hcb : (-1048576 ≤ c.x ∧ c.x ≤ 1048576) ∧ (-1048576 ≤ c.y ∧ c.y ≤ 1048576) := by
    have := hg c (List.mem_of_getElem? hx)
    unfold good placed at this
    simp only [Bool.and_eq_true, decide_eq_true_eq] at this
    omega
   simp (maxSteps := 2000000) (disch := omega) [gd_in, gd_and, wr_i64, hrv, hlt, hlt', hB]
   refine (?key2 : ∀ (r : Nat) (yy : Int) (acc : List (Int × Int)) (o : V) (B : List (Nat × List V)) (H1 : Hp), r ≤ 5 → yy = -2 + (r : Int) → getB B 1 = some [.m (.b false), .m (.i .i64 bx), .m (.i .i64 by_), .m (.i .i64 w), .m (.i .i64 h), .m cs, .m v] → acc.Nodup → (∀ k, k ∈ acc ↔ nrs p i k ∨ (nr c k ∧ k.2 - c.y < yy)) → acc.length ≤ 25 * i + 5 * r → OutA acc o H1 → Run G c53_B3 (S53_3 (.fa 1 0) o (.m (.i .i64 (i : Int))) (.m (.i .i64 yy)) B H1) _) 0 (-2) acc o _ H1 (Nat.zero_le _) (by simp) hB hnd (fun k => (hmem k).trans ⟨fun h => .inl h, fun h => h.elim id fun h => by unfold nr at h; omega⟩) (by omega) ho
   clear hvw hnf hmem hnd hlen ho hB acc o B H1
   refine indM (fun r : Nat => 5 - r) fun r ihr yy acc o B H1 hr hyy hB hnd hmem hlen ho => ?_
   unfold c53_B3
   obtain ⟨hvw, hnf⟩ := outA_view ho
   by_cases hr5 : r < 5
   ·have t1 : yy ≤ 2 := by omega
    have wy1 : wr .i64 (yy + 1) = yy + 1 := wr_i64 (by omega) (by omega)
    simp (maxSteps := 2000000) (disch := omega) [gd_in, gd_and, wr_i64, t1]
    refine (?key3 : ∀ (q : Nat) (xx : Int) (acc : List (Int × Int)) (o : V) (B : List (Nat × List V)) (H1 : Hp), q ≤ 5 → xx = -2 + (q : Int) → getB B 1 = some [.m (.b false), .m (.i .i64 bx), .m (.i .i64 by_), .m (.i .i64 w), .m (.i .i64 h), .m cs, .m v] → acc.Nodup → (∀ k, k ∈ acc ↔ nrs p i k ∨ (nr c k ∧ (k.2 - c.y < yy ∨ (k.2 - c.y = yy ∧ k.1 - c.x < xx)))) → acc.length ≤ 25 * i + 5 * r + q → OutA acc o H1 → Run G c53_B2 (S53_2 (.fa 1 0) o (.m (.i .i64 (i : Int))) (.m (.i .i64 yy)) (.m (.i .i64 xx)) B H1) _) 0 (-2) acc o _ H1 (Nat.zero_le _) (by simp) hB hnd (fun k => (hmem k).trans ⟨fun h => h.elim .inl fun h => .inr ⟨h.1, .inl h.2⟩, fun h => h.elim .inl fun h => .inr ⟨h.1, by have := h.1; unfold nr at this; omega⟩⟩) (by omega) ho
    clear hvw hnf hmem hnd hlen ho hB acc o B H1
    refine indM (fun q : Nat => 5 - q) fun q ihq xx acc o B H1 hq hxx hB hnd hmem hlen ho => ?_
    unfold c53_B2
    obtain ⟨hvw, hnf⟩ := outA_view ho
    by_cases hq5 : q < 5
    ·have t2 : xx ≤ 2 := by omega
     have wx1 : wr .i64 (xx + 1) = xx + 1 := wr_i64 (by omega) (by omega)
     obtain ⟨X, hX⟩ : ∃ X, X = c.x + xx := ⟨_, rfl⟩
     obtain ⟨Y, hY⟩ : ∃ Y, Y = c.y + yy := ⟨_, rfl⟩
     have wX : wr .i64 (c.x + xx) = X := by rw [hX]; exact wr_i64 (by omega) (by omega)
     have wY : wr .i64 (c.y + yy) = Y := by rw [hY]; exact wr_i64 (by omega) (by omega)
     have hnrk : nr c (X, Y) := by unfold nr; dsimp only; omega
     have ho' := outA_more ho (.cs 40 2 [[.m (.i .i64 X), .m (.i .i64 Y)]] 1 false)
     obtain ⟨b, hb, gE⟩ := ge i (by omega) (X, Y) (by dsimp only; omega) (H1 ++ [.cs 40 2 [[.m (.i .i64 X), .m (.i .i64 Y)]] 1 false])
     dsimp only at gE
     have w22 : ∀ a b c d : V, writeR 2 [[a, b]] 0 0 [c, d] = some [[c, d]] := fun _ _ _ _ => rfl
     have r22 : ∀ a b : V, readR 2 [[a, b]] 0 0 2 = some [a, b] := fun _ _ => rfl
     cases b with
     | true =>
      have hold := hb.1 rfl
      have k := ihq (q + 1) (by omega) (xx + 1) acc o B (H1 ++ [.cs 40 2 [[.m (.i .i64 X), .m (.i .i64 Y)]] 1 false]) (by omega) (by omega) hB hnd (fun k => (hmem k).trans (by
       constructor
       ·rintro (h1 | ⟨h1, h2⟩)
        ·exact .inl h1
        ·exact .inr ⟨h1, by omega⟩
       ·rintro (h1 | ⟨h1, h2⟩)
        ·exact .inl h1
        ·by_cases e : k = (X, Y)
         ·subst e; exact .inl hold
         ·refine .inr ⟨h1, ?_⟩
          have : ¬ (k.1 = X ∧ k.2 = Y) := fun h => e (Prod.ext h.1 h.2)
          omega)) (by omega) ho'
      simp (maxSteps := 2000000) (disch := omega) [gd_in, gd_and, wr_i64, t2, hB, hrv, hlt, hlt', hn, wX, wY, setEl_l2, nth_l2, w22, r22, cl gE, wx1, setC_v hnf]
      exact k
     | false =>
      have hnew : ¬ nrs p i (X, Y) := fun h => by have := hb.2 h; cases this
      obtain ⟨o1, H2, hap, hn1, ho1⟩ := outA_push ho' (by omega) X Y
      have k := ihq (q + 1) (by omega) (xx + 1) (acc ++ [(X, Y)]) o1 B H2 (by omega) (by omega) hB (by
       rw [List.nodup_append]
       refine ⟨hnd, by simp, fun a ha b hb => ?_⟩
       rw [List.mem_singleton.1 hb]
       intro e
       subst e
       rcases (hmem _).1 ha with h1 | ⟨_, h2⟩
       ·exact hnew h1
       ·dsimp only at h2; omega) (fun k => by
       rw [List.mem_append, List.mem_singleton, hmem]
       constructor
       ·rintro ((h1 | ⟨h1, h2⟩) | rfl)
        ·exact .inl h1
        ·exact .inr ⟨h1, by omega⟩
        ·exact .inr ⟨hnrk, by dsimp only; omega⟩
       ·rintro (h1 | ⟨h1, h2⟩)
        ·exact .inl (.inl h1)
        ·by_cases e : k = (X, Y)
         ·exact .inr e
         ·refine .inl (.inr ⟨h1, ?_⟩)
          have : ¬ (k.1 = X ∧ k.2 = Y) := fun h => e (Prod.ext h.1 h.2)
          omega) (by simp; omega) ho1
      simp (maxSteps := 2000000) (disch := omega) [gd_in, gd_and, wr_i64, t2, hB, hrv, hlt, hlt', hn, wX, wY, setEl_l2, nth_l2, w22, r22, cl gE, hap, wx1, setC_v hnf, setC_v hn1]
      exact k
    ·have : q = 5 := by omega
     subst this
     have t2 : ¬ xx ≤ 2 := by omega
     have k := ihr (r + 1) (by omega) (yy + 1) acc o B H1 (by omega) (by omega) hB hnd (fun k => (hmem k).trans (by
      constructor
      ·rintro (h1 | ⟨h1, h2⟩)
       ·exact .inl h1
       ·exact .inr ⟨h1, by omega⟩
      ·rintro (h1 | ⟨h1, h2⟩)
       ·exact .inl h1
       ·refine .inr ⟨h1, ?_⟩
        unfold nr at h1
        omega)) (by omega) ho
     simp (maxSteps := 2000000) (disch := omega) [gd_in, gd_and, wr_i64, t2, wy1, setC_v hnf]
     exact k
   ·have : r = 5 := by omega
    subst this
    have t1 : ¬ yy ≤ 2 := by omega
    have k := ih (i + 1) (by omega) acc o B H1 (by omega) hB hnd (fun k => (hmem k).trans (by
     rw [nrs_snoc hx]
     constructor
     ·rintro (h1 | ⟨h1, h2⟩)
      ·exact .inl h1
      ·exact .inr h1
     ·rintro (h1 | h1)
      ·exact .inl h1
      ·exact .inr ⟨h1, by unfold nr at h1; omega⟩)) (by omega) ho
    simp (maxSteps := 2000000) (disch := omega) [gd_in, gd_and, wr_i64, t1, wi, setC_v hnf, -Int.natCast_add]
    exact k
 obtain ⟨x, H', h1, rfl, acc, h2, rfl⟩ := key
 exact ⟨acc, h2, h1⟩
end Go.Mx.Tryz
