/- Home and Turn of patterns, the image of a pattern: the program. -/
import Derived.Test.YtchacpbmpgfblaaDoorFi
import Derived.Test.YtchacpbmpgfblaaDoorBx
import Derived.Test.YtchacpbmpgfblaaDoorSz
set_option linter.unusedSimpArgs false
set_option linter.unusedVariables false
set_option linter.unusedSectionVars false
set_option maxRecDepth 100000
namespace Go.Mx.Tryd
open Go.Sort Go.Lib Go.Proofs

def mvC (a b : Int) (c : Ce) : Ce := ⟨c.x - a, c.y - b, c.s⟩
def tnC (k : Nat) (c : Ce) : Ce := ⟨(appT k c.x c.y).1, (appT k c.x c.y).2, c.s⟩
def lowX : List Ce → Int
 | [] => 0
 | c :: r => mnF c.x ((c :: r).map Ce.x)
def lowY : List Ce → Int
 | [] => 0
 | c :: r => mnF c.y ((c :: r).map Ce.y)
def homeC (p : List Ce) : List Ce := p.map (mvC (lowX p) (lowY p))
theorem rows3_snoc (f : List Ce) (c : Ce) : rows3 f ++ [[.m (.i .i64 c.x), .m (.i .i64 c.y), .m (.i .i64 c.s)]] = rows3 (f ++ [c]) := by simp [rows3, ceRw, Ce.i]
theorem outM_push (f : List Ce) (hl : f.length ≤ 1000000) (c : Ce) (B : List (Nat × List V)) : appX ⟨B, [.cs 43 3 (rows3 f) 0 false]⟩ 43 3 24 (.sl 0 f.length 3 0 f.length false) [[.m (.i .i64 c.x), .m (.i .i64 c.y), .m (.i .i64 c.s)]] = some (.sl 0 (f ++ [c]).length 3 0 (f ++ [c]).length false, ⟨B, [.cs 43 3 (rows3 (f ++ [c])) 0 false]⟩) := by
 have ha := app_row (M := ⟨B, [.cs 43 3 (rows3 f) 0 false]⟩) (r := 0) (bytes := 24) (xs := [[.m (.i .i64 c.x), .m (.i .i64 c.y), .m (.i .i64 c.s)]]) rfl (by simp) (by simp; omega) rfl
 simp only [rows3_len, List.length_cons, List.length_nil, Nat.zero_add, List.set_cons_zero, rows3_snoc] at ha
 rw [ha]
 simp
theorem right_bnd {p : List Ce} (h : right p = true) {c : Ce} (hc : c ∈ p) : (-1048576 ≤ c.x ∧ c.x ≤ 1048576) ∧ (-1048576 ≤ c.y ∧ c.y ≤ 1048576) ∧ 1 ≤ c.s ∧ c.s < 8 := by
 have := (right_pw h).2.1 c hc
 unfold good placed at this
 simp only [Bool.and_eq_true, decide_eq_true_eq] at this
 omega
theorem lowX_bnd {p : List Ce} (h : right p = true) : -1048576 ≤ lowX p ∧ lowX p ≤ 1048576 := by
 cases p with
 | nil => simp [lowX]
 | cons c r =>
  have hb := right_bnd h (List.mem_cons_self ..)
  have h1 : mnF c.x ((c :: r).map Ce.x) ≤ c.x := (mnF_ge _ _).1
  have h2 : -1048576 ≤ mnF c.x ((c :: r).map Ce.x) := mnF_le _ _ _ ⟨by omega, fun y hy => by
   obtain ⟨d, hd, rfl⟩ := List.mem_map.1 hy
   have := right_bnd h hd
   omega⟩
  show -1048576 ≤ mnF c.x ((c :: r).map Ce.x) ∧ mnF c.x ((c :: r).map Ce.x) ≤ 1048576
  omega
theorem lowY_bnd {p : List Ce} (h : right p = true) : -1048576 ≤ lowY p ∧ lowY p ≤ 1048576 := by
 cases p with
 | nil => simp [lowY]
 | cons c r =>
  have hb := right_bnd h (List.mem_cons_self ..)
  have h1 : mnF c.y ((c :: r).map Ce.y) ≤ c.y := (mnF_ge _ _).1
  have h2 : -1048576 ≤ mnF c.y ((c :: r).map Ce.y) := mnF_le _ _ _ ⟨by omega, fun y hy => by
   obtain ⟨d, hd, rfl⟩ := List.mem_map.1 hy
   have := right_bnd h hd
   omega⟩
  show -1048576 ≤ mnF c.y ((c :: r).map Ce.y) ∧ mnF c.y ((c :: r).map Ce.y) ≤ 1048576
  omega

set_option maxHeartbeats 2000000 in
theorem home_s {v : I} {p : List Ce} (hv : IsSl v (cells3 p)) (hp : right p = true) (H : Hp) : Gives G 27 [.m v] H (.m (if p = [] then v else .sl (cells3 (homeC p)))) H := by
 have hl : p.length ≤ 5000 := (right_pw hp).2.2
 have hr := hv.rules
 have gb := fun H => box_s hv (by omega) H
 have gr := fun H => right_s hv (by omega) H
 rw [hp] at gr
 refine gives_pur rfl rfl rfl rfl rfl ?_
 cases hpe : p with
 | nil =>
  subst hpe
  simp (maxSteps := 2000000) (disch := omega) [gd_in, gd_and, wr_i64, hr, gcall_cx, cl (gb _), boxV, boxC, cl (gr _)]
 | cons c0 r0 =>
  have hne : p ≠ [] := by rw [hpe]; simp
  rw [← hpe]
  obtain ⟨bw, bh, hbc⟩ : ∃ bw bh, boxC p = [lowX p, lowY p, bw, bh] := by
   obtain ⟨d, hd⟩ : ∃ d, (c0 :: r0)[(c0 :: r0).length - 1]? = some d := ⟨_, List.getElem?_eq_getElem (by simp)⟩
   have hy := (right_ys (by rw [← hpe]; exact hp) hd).1
   have hlow : lowY (c0 :: r0) = c0.y := hy
   have hp' : right (c0 :: r0) = true := by rw [← hpe]; exact hp
   rw [hpe]
   simp only [boxC]
   rw [if_pos hp', hlow]
   exact ⟨_, _, rfl⟩
  have hbv : boxV p = .tu [.m (.ag [.i .i64 (lowX p), .i .i64 (lowY p), .i .i64 bw, .i .i64 bh]), .m (.b true)] := by
   unfold boxV
   rw [hbc, hp]
   simp [hne]
  rw [hbv] at gb
  have hlx := lowX_bnd hp
  have hly := lowY_bnd hp
  have hnc : Nat.beq 0 p.length = false := by cases hq : p with | nil => exact absurd hq hne | cons _ _ => rfl
  simp only [show (cells3 p).length = p.length from by simp [cells3]] at hr
  have hcap : p.length * 24 ≤ 281474976710656 := by omega
  have hcap2 : p.length ≤ 9223372036854775807 := by omega
  have hdc : decide (0 = p.length) = false := by rw [← beq_dec]; exact hnc
  simp (maxSteps := 2000000) (disch := omega) [gd_in, gd_and, wr_i64, hr, gcall_cx, cl (gb _), cl (gr _), hne, hnc, hcap, hcap2, hdc]
  refine (?key : ∀ (i : Nat) (f : List Ce) (B : List (Nat × List V)), i ≤ p.length → f = (p.take i).map (mvC (lowX p) (lowY p)) → getB B 3 = some [.m (.i .i64 (lowX p)), .m (.i .i64 (lowY p)), .m (.i .i64 bw), .m (.i .i64 bh)] → Run G c27_B0 (S27_0 (.fa 3 0) (.sl 0 f.length 3 0 f.length false) (.m v) (.m (.i .i64 p.length)) (.m (.i .i64 (i : Int))) B [.cs 43 3 (rows3 f) 0 false]) _) 0 [] [(3, [.m (.i .i64 (lowX p)), .m (.i .i64 (lowY p)), .m (.i .i64 bw), .m (.i .i64 bh)])] (Nat.zero_le _) rfl rfl
  refine indM (fun i : Nat => p.length - i) fun i ih f B hi hf0 hB => ?_
  unfold c27_B0
  cases hx : p[i]? with
  | some c =>
   have hlt := (get_drop hx).1
   have hlt' : (i : Int) < p.length := by omega
   have hn := cells3_nth hx
   have wi : wr .i64 ((i : Int) + 1) = (i : Int) + 1 := wr_i64 (by omega) (by omega)
   have htk : p.take (i + 1) = p.take i ++ [c] := take_succ_get hx
   have hb := right_bnd hp (List.mem_of_getElem? hx)
   have w1 : wr .i64 (c.x - lowX p) = c.x - lowX p := wr_i64 (by omega) (by omega)
   have w2 : wr .i64 (c.y - lowY p) = c.y - lowY p := wr_i64 (by omega) (by omega)
   have hf : f.length ≤ 1000000 := by rw [hf0, List.length_map, List.length_take]; omega
   have ha := fun B => outM_push f hf (mvC (lowX p) (lowY p) c) B
   have e : f ++ [mvC (lowX p) (lowY p) c] = (p.take (i + 1)).map (mvC (lowX p) (lowY p)) := by rw [htk, hf0]; simp
   have ih' := ih (i + 1) (by omega) (f ++ [mvC (lowX p) (lowY p) c])
   clear ih hf0
   generalize f ++ [mvC (lowX p) (lowY p) c] = f' at *
   simp only [mvC] at ha
   simp (maxSteps := 2000000) (disch := omega) [gd_in, gd_and, wr_i64, hr, hlt, hlt', hn, wi, hB, w1, w2, ha]
   exact ih' _ (by omega) e (by simpa using hB)
  | none =>
   have : i = p.length := by have := List.getElem?_eq_none_iff.1 hx; omega
   subst this
   clear ih
   rw [List.take_length] at hf0
   have hvv := viewP (r := 0) (b := 0) (X := []) (A := []) (q := homeC p) (n := (homeC p).length) rfl (Nat.zero_le _) 18
   have e : f = homeC p := hf0
   rw [e]
   clear e hf0
   generalize homeC p = f at *
   have hvr : viewR [.cs 43 3 (rows3 f) 0 false] (.sl 0 f.length 3 0 f.length false) = some (.m (.sl (cells3 f))) := by
    show (view 20 _ _).bind _ = _
    rw [hvv]
    rfl
   simp (maxSteps := 2000000) (disch := omega) [gd_in, gd_and, wr_i64, hr, hvr]

theorem appT_bnd {k : Nat} {x y : Int} (hx : -1048576 ≤ x ∧ x ≤ 1048576) (hy : -1048576 ≤ y ∧ y ≤ 1048576) : (-1048576 ≤ (appT k x y).1 ∧ (appT k x y).1 ≤ 1048576) ∧ (-1048576 ≤ (appT k x y).2 ∧ (appT k x y).2 ≤ 1048576) := by
 unfold appT
 split <;> dsimp only <;> omega
theorem appT_inj {k : Nat} {x y z w : Int} (h1 : (appT k x y).1 = (appT k z w).1) (h2 : (appT k x y).2 = (appT k z w).2) : x = z ∧ y = w := by
 unfold appT at h1 h2
 split at h1 <;> simp at h1 h2 <;> omega
theorem pw_apart {p : List Ce} (h : p.Pairwise (fun a b => less a b = true)) : p.Pairwise apart := h.imp fun {a b} h => by
 unfold less at h
 unfold apart
 simp at h
 omega
theorem right_of : ∀ {p : List Ce}, p.Pairwise (fun a b => less a b = true) → (∀ c, c ∈ p → good c = true) → p.length ≤ 5000 → right p = true := fun {p} h1 h2 h3 => by
 have key : ∀ (p : List Ce) (o : Option Ce), p.Pairwise (fun a b => less a b = true) → (∀ a, o = some a → ∀ d, d ∈ p → less a d = true) → (∀ c, c ∈ p → good c = true) → chain o p = true := by
  intro p
  induction p with
  | nil => intro o _ _ _; cases o <;> rfl
  | cons c r ih =>
   intro o h1 h2 h3
   obtain ⟨h4, h5⟩ := List.pairwise_cons.1 h1
   have i := ih (some c) h5 (fun a ha d hd => by cases ha; exact h4 d hd) (fun d hd => h3 d (List.mem_cons_of_mem _ hd))
   cases o with
   | none =>
    show (good c && chain (some c) r) = true
    rw [h3 c (List.mem_cons_self ..), i]
    rfl
   | some a =>
    show (good c && less a c && chain (some c) r) = true
    rw [h3 c (List.mem_cons_self ..), i, h2 a rfl c (List.mem_cons_self ..)]
    rfl
 unfold right
 rw [decide_eq_true h3, key p none h1 (fun a h => by cases h) h2]
 rfl
theorem turn_apart (k : Nat) {p : List Ce} (h : p.Pairwise apart) : (p.map (tnC k)).Pairwise apart := by
 rw [List.pairwise_map]
 refine h.imp fun {a b} h h2 => h ?_
 exact appT_inj (k := k) h2.1 h2.2
theorem apart_perm {p q : List Ce} (h : q.Perm p) (ha : p.Pairwise apart) : q.Pairwise apart := by
 refine (h.pairwise_iff (fun {a b} hab => ?_)).2 ha
 exact fun ⟨h1, h2⟩ => hab ⟨h1.symm, h2.symm⟩
theorem asc_pw {q : List Ce} (ha : Asc q) (hp : q.Pairwise apart) : q.Pairwise (fun a b => less a b = true) := by
 rw [List.pairwise_iff_getElem] at hp ⊢
 intro i j hi hj hij
 have h1 := ha i j _ _ hij (List.getElem?_eq_getElem hi) (List.getElem?_eq_getElem hj)
 have h2 := hp i j hi hj hij
 unfold less at *
 unfold apart at h2
 simp at *
 omega
end Go.Mx.Tryd
