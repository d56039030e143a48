/- Comparing literals and clauses; lists of literals of the reference. -/
import Derived.Test.YtcdcepfigjohfaaGreatDoorYa
import Derived.Test.YtcdcepfigjohfaaGreatDoorYl
import Derived.Test.YtcdcepfigjohfaaGreatDoorLaw
set_option linter.unusedSimpArgs false
set_option linter.unusedVariables false
set_option linter.unusedSectionVars false
set_option maxRecDepth 100000
namespace Go.Mx.Tryz

theorem nan_s (x : Int) (H : Hp) : Gives G 84 [.m (.i .i64 x)] H (.m (.b false)) H := by
 refine gives_pur rfl rfl rfl rfl rfl ?_
 simp
def cmpI (x y : Int) : Int := if x < y then -1 else if y < x then 1 else 0
theorem cmp_s (x y : Int) (H : Hp) : Gives G 63 [.m (.i .i64 x), .m (.i .i64 y)] H (.m (.i .i64 (cmpI x y))) H := by
 refine gives_pur rfl rfl rfl rfl rfl ?_
 simp (contextual := true) [test_cx, rest_cx, gcall_cx, gcav_cx, -Int.not_lt, -Int.not_le, -Nat.not_lt, -Nat.not_le, -List.map_take, cl (nan_s _ _), cmpI]
theorem or2_s (a b : Int) (H : Hp) : Gives G 62 [.m (.sl [[.i .i64 a], [.i .i64 b]])] H (.m (.i .i64 (if a = 0 then b else a))) H := by
 refine gives_pur rfl rfl rfl rfl rfl ?_
 simp (contextual := true) [test_cx, rest_cx, gcall_cx, gcav_cx, -Int.not_lt, -Int.not_le, -Nat.not_lt, -Nat.not_le, -List.map_take, wr_i64, c62_B0]
def cfL (a b : Int) : Int := if cmpI (max a (-a)) (max b (-b)) = 0 then cmpI a b else cmpI (max a (-a)) (max b (-b))
theorem cfL_lt (a b : Int) : decide (cfL a b < 0) = litLt a b := by
 rw [Bool.eq_iff_iff]
 unfold cfL cmpI litLt
 simp only [Bool.or_eq_true, Bool.and_eq_true, decide_eq_true_eq]
 generalize max a (-a) = x
 generalize max b (-b) = y
 repeat' split
 all_goals omega
theorem cfL_0 {a b : Int} : cfL a b = 0 ↔ a = b := by
 unfold cfL cmpI
 constructor
 ·intro h
  repeat' split at h
  all_goals omega
 ·rintro rfl
  simp
def Sm (c : List Int) : Prop := ∀ x, x ∈ c → -65536 ≤ x ∧ x ≤ 65536
theorem lits_sm {n : Int} {c : List Int} (hn : n ≤ 65536) (h : lits n c = true) : Sm c := fun x hx => by
 unfold lits at h
 rw [List.all_eq_true] at h
 have := h x hx
 unfold lit at this
 simp only [decide_eq_true_eq] at this
 omega
theorem lits_0 {n : Int} {c : List Int} (h : lits n c = true) : ∀ x, x ∈ c → x ≠ 0 := fun x hx => by
 unfold lits at h
 rw [List.all_eq_true] at h
 have := h x hx
 unfold lit at this
 simp only [decide_eq_true_eq] at this
 exact this.1
theorem wr_neg {x : Int} (h : -65536 ≤ x ∧ x ≤ 65536) : wr .i64 (-x) = -x := wr_i64 (by omega) (by omega)

theorem order_s (a b : Int) (ha : -65536 ≤ a ∧ a ≤ 65536) (hb : -65536 ≤ b ∧ b ≤ 65536) (H : Hp) : Gives G 34 [.m (.i .i64 a), .m (.i .i64 b)] H (.m (.i .i64 (cfL a b))) H := by
 refine gives_pur rfl rfl rfl rfl rfl ?_
 have wa := wr_neg ha
 have wb := wr_neg hb
 have hv := gives_view (vs := [.ls [[.i .i64 (cmpI (max a (-a)) (max b (-b)))], [.i .i64 (cmpI a b)]]]) (H := []) rfl rfl (or2_s (cmpI (max a (-a)) (max b (-b))) (cmpI a b) []) rfl (.inl ⟨rfl, rfl⟩)
 simp [wa, wb, cl (cmp_s _ _ _), cl hv, cfL]
theorem before_r (a b : Int) (ha : -65536 ≤ a ∧ a ≤ 65536) (hb : -65536 ≤ b ∧ b ≤ 65536) (H : Hp) : Gives G 66 [.m (.i .i64 a), .m (.i .i64 b)] H (.m (.b (litLt a b))) H := by
 refine gives_pur rfl rfl rfl rfl rfl ?_
 have wa := wr_neg ha
 have wb := wr_neg hb
 by_cases h1 : max a (-a) < max b (-b)
 ·simp [wa, wb, h1, litLt]
 ·by_cases h2 : max a (-a) = max b (-b)
  ·simp [wa, wb, h2, litLt]
  ·simp [wa, wb, h1, h2, litLt]

theorem has_r {z : I} {c : List Int} (hz : IsSl z (celI c)) (hc : c.length ≤ 9223372036854775807) (n : Int) (H : Hp) : Gives G 65 [.m z, .m (.i .i64 n)] H (.m (.b (decide (n ∈ c)))) H := by
 refine gives_pur rfl rfl rfl rfl rfl ?_
 have hr := hz.rules
 simp only [celI_len] at hr
 simp (maxSteps := 2000000) (disch := omega) [gd_in, gd_and, wr_i64, hr]
 refine (?key : ∀ (i : Nat) (B : List (Nat × List V)), i ≤ c.length → (n ∈ c ↔ n ∈ c.drop i) → Run G c65_B0 (S65_0 (.m z) (.m (.i .i64 n)) (.m (.i .i64 i)) B []) _) 0 [] (Nat.zero_le _) (by simp)
 refine indM (fun i : Nat => c.length - i) fun i ih B hi hq => ?_
 unfold c65_B0
 cases hx : c[i]? with
 | none =>
  have : i = c.length := by have := List.getElem?_eq_none_iff.1 hx; omega
  subst this
  have e : ¬ n ∈ c := by rw [hq]; simp
  simp (maxSteps := 2000000) (disch := omega) [gd_in, gd_and, wr_i64, hr, e]
 | some x =>
  have hlt := (List.getElem?_eq_some_iff.1 hx).1
  have hlt' : (i : Int) < c.length := by omega
  have hn := celI_nth hx
  have wi : wr .i64 ((i : Int) + 1) = ((i + 1 : Nat) : Int) := wr_i64 (by omega) (by omega)
  rw [(get_drop hx).2, List.mem_cons] at hq
  by_cases h : x = n
  ·have e : n ∈ c := hq.2 (.inl h.symm)
   simp (maxSteps := 2000000) (disch := omega) [gd_in, gd_and, wr_i64, hr, hlt, hlt', hn, h, e]
  ·have k := ih (i + 1) (by omega) B (by omega) ⟨fun e => (hq.1 e).resolve_left fun e => h e.symm, fun e => hq.2 (.inr e)⟩
   simp (maxSteps := 2000000) (disch := omega) [gd_in, gd_and, wr_i64, hr, hlt, hlt', hn, h, wi, -Int.natCast_add]
   exact k

theorem opp_drop {c : List Int} {i : Nat} {x : Int} (hx : c[i]? = some x) : ((c.drop i).any fun y => decide (-y ∈ c)) = (decide (-x ∈ c) || (c.drop (i + 1)).any fun y => decide (-y ∈ c)) := by
 rw [(get_drop hx).2, List.any_cons]
theorem opposed_r {z : I} {c : List Int} (hz : IsSl z (celI c)) (hc : c.length ≤ 9223372036854775807) (hs : Sm c) (H : Hp) : Gives G 42 [.m z] H (.m (.b (opp c))) H := by
 refine gives_pur rfl rfl rfl rfl rfl ?_
 have hr := hz.rules
 simp only [celI_len] at hr
 simp (maxSteps := 2000000) (disch := omega) [gd_in, gd_and, wr_i64, hr]
 refine (?key : ∀ (i : Nat) (B : List (Nat × List V)), i ≤ c.length → opp c = ((c.drop i).any fun y => decide (-y ∈ c)) → Run G c42_B0 (S42_0 (.m z) (.m (.i .i64 i)) B []) _) 0 [] (Nat.zero_le _) rfl
 refine indM (fun i : Nat => c.length - i) fun i ih B hi hq => ?_
 unfold c42_B0
 cases hx : c[i]? with
 | none =>
  have : i = c.length := by have := List.getElem?_eq_none_iff.1 hx; omega
  subst this
  have e : opp c = false := by rw [hq]; simp
  simp (maxSteps := 2000000) (disch := omega) [gd_in, gd_and, wr_i64, hr, e]
 | some x =>
  have hlt := (List.getElem?_eq_some_iff.1 hx).1
  have hlt' : (i : Int) < c.length := by omega
  have hn := celI_nth hx
  have wi : wr .i64 ((i : Int) + 1) = ((i + 1 : Nat) : Int) := wr_i64 (by omega) (by omega)
  have wx := wr_neg (hs x (List.mem_of_getElem? hx))
  rw [opp_drop hx] at hq
  have g := fun H => has_r hz hc (-x) H
  by_cases h : -x ∈ c
  ·rw [decide_eq_true h] at g
   have e : opp c = true := by rw [hq]; simp [h]
   simp (maxSteps := 2000000) (disch := omega) [gd_in, gd_and, wr_i64, hr, hlt, hlt', hn, wx, cl (g _), e]
  ·rw [decide_eq_false h] at g
   have k := ih (i + 1) (by omega) B (by omega) (by rw [hq]; simp [h])
   simp (maxSteps := 2000000) (disch := omega) [gd_in, gd_and, wr_i64, hr, hlt, hlt', hn, wx, cl (g _), wi, -Int.natCast_add]
   exact k

def cmpR (a b : List Int) : Int := if lexLt a b = true then -1 else if lexLt b a = true then 1 else 0
theorem cmpR_cons (x : Int) (a b : List Int) : cmpR (x :: a) (x :: b) = cmpR a b := by
 unfold cmpR
 rw [lexLt_cons, lexLt_cons, sto_lit.irr]
 simp
theorem cmpR_lt {x y : Int} (h : litLt x y = true) (a b : List Int) : cmpR (x :: a) (y :: b) = -1 := by
 unfold cmpR
 rw [lexLt_cons, h]
 rfl
theorem cmpR_gt {x y : Int} (h : litLt y x = true) (a b : List Int) : cmpR (x :: a) (y :: b) = 1 := by
 unfold cmpR
 rw [lexLt_cons, lexLt_cons, h, sto_lit.asym h]
 have : ¬ x = y := fun e => by subst e; rw [sto_lit.irr] at h; cases h
 simp [this]
theorem cmpR_end {a b : List Int} (h : a = [] ∨ b = []) : cmpR a b = if a.length < b.length then -1 else if b.length < a.length then 1 else 0 := by
 rcases h with rfl | rfl
 ·cases b with
  | nil => rfl
  | cons y b =>
   rw [if_pos (by simp)]
   rfl
 ·cases a with
  | nil => rfl
  | cons y b =>
   rw [if_neg (by simp), if_pos (by simp)]
   rfl
theorem cmpR_iff {a b : List Int} : (cmpR a b < 0 ↔ lexLt a b = true) ∧ (cmpR a b = 0 ↔ a = b) := by
 unfold cmpR
 refine ⟨?_, ?_⟩
 ·constructor
  ·intro h
   split at h
   ·assumption
   ·split at h <;> omega
  ·intro h
   rw [if_pos h]
   omega
 ·constructor
  ·intro h
   split at h
   ·omega
   ·split at h
    ·omega
    ·rename_i h1 h2
     exact sto_lex.eq (by simpa using h1) (by simpa using h2)
  ·rintro rfl
   rw [sto_lex.irr]
   rfl

theorem compare_r {z y : I} {c d : List Int} (hz : IsSl z (celI c)) (hy : IsSl y (celI d)) (hc : c.length ≤ 9223372036854775807) (hd : d.length ≤ 9223372036854775807) (hsc : Sm c) (hsd : Sm d) (H : Hp) : Gives G 43 [.m z, .m y] H (.m (.i .i64 (cmpR c d))) H := by
 refine gives_pur rfl rfl rfl rfl rfl ?_
 have hr := hz.rules
 have hr2 := hy.rules
 simp only [celI_len] at hr hr2
 simp (maxSteps := 2000000) (disch := omega) [gd_in, gd_and, wr_i64, hr, hr2]
 refine (?key : ∀ (i : Nat) (B : List (Nat × List V)), i ≤ c.length → i ≤ d.length → cmpR c d = cmpR (c.drop i) (d.drop i) → Run G c43_B0 (S43_0 (.m z) (.m y) (.m (.i .i64 i)) B []) _) 0 [] (Nat.zero_le _) (Nat.zero_le _) rfl
 refine indM (fun i : Nat => c.length - i) fun i ih B hi hi2 hq => ?_
 unfold c43_B0
 have fin : (c.drop i = [] ∨ d.drop i = []) → cmpR c d = if c.length < d.length then -1 else if d.length < c.length then 1 else 0 := fun h => by
  rw [hq, cmpR_end h]
  simp only [List.length_drop]
  repeat' split
  all_goals omega
 cases hx : c[i]? with
 | none =>
  have : i = c.length := by have := List.getElem?_eq_none_iff.1 hx; omega
  subst this
  have f := fin (.inl (by simp))
  by_cases h1 : c.length < d.length
  ·have h1' : (c.length : Int) < d.length := by omega
   rw [if_pos h1] at f
   simp (maxSteps := 2000000) (disch := omega) [gd_in, gd_and, wr_i64, hr, hr2, h1, h1', f]
  ·have h1' : ¬ (c.length : Int) < d.length := by omega
   have h2 : ¬ d.length < c.length := by omega
   have h2' : ¬ (d.length : Int) < c.length := by omega
   rw [if_neg h1, if_neg h2] at f
   simp (maxSteps := 2000000) (disch := omega) [gd_in, gd_and, wr_i64, hr, hr2, h1, h1', h2, h2', f]
 | some x =>
  have hlt := (List.getElem?_eq_some_iff.1 hx).1
  have hlt' : (i : Int) < c.length := by omega
  cases hw : d[i]? with
  | none =>
   have : i = d.length := by have := List.getElem?_eq_none_iff.1 hw; omega
   subst this
   have f := fin (.inr (by simp))
   have h1 : ¬ c.length < d.length := by omega
   have h1' : ¬ (c.length : Int) < d.length := by omega
   rw [if_neg h1, if_pos hlt] at f
   simp (maxSteps := 2000000) (disch := omega) [gd_in, gd_and, wr_i64, hr, hr2, hlt, hlt', h1, h1', f]
  | some w =>
   have hlt2 := (List.getElem?_eq_some_iff.1 hw).1
   have hlt2' : (i : Int) < d.length := by omega
   have hn := celI_nth hx
   have hn2 := celI_nth hw
   have wi : wr .i64 ((i : Int) + 1) = ((i + 1 : Nat) : Int) := wr_i64 (by omega) (by omega)
   have sx := hsc x (List.mem_of_getElem? hx)
   have sw := hsd w (List.mem_of_getElem? hw)
   have g1 := fun H => before_r x w sx sw H
   have g2 := fun H => before_r w x sw sx H
   rw [(get_drop hx).2, (get_drop hw).2] at hq
   cases h1 : litLt x w with
   | true =>
    rw [h1] at g1
    rw [cmpR_lt h1] at hq
    simp (maxSteps := 2000000) (disch := omega) [gd_in, gd_and, wr_i64, hr, hr2, hlt, hlt', hlt2, hlt2', hn, hn2, cl (g1 _), hq]
   | false =>
    rw [h1] at g1
    cases h2 : litLt w x with
    | true =>
     rw [h2] at g2
     rw [cmpR_gt h2] at hq
     simp (maxSteps := 2000000) (disch := omega) [gd_in, gd_and, wr_i64, hr, hr2, hlt, hlt', hlt2, hlt2', hn, hn2, cl (g1 _), cl (g2 _), hq]
    | false =>
     rw [h2] at g2
     have e := sto_lit.eq h1 h2
     subst e
     rw [cmpR_cons] at hq
     have k := ih (i + 1) (by omega) B (by omega) (by omega) hq
     simp (maxSteps := 2000000) (disch := omega) [gd_in, gd_and, wr_i64, hr, hr2, hlt, hlt', hlt2, hlt2', hn, hn2, cl (g1 _), wi, -Int.natCast_add]
     exact k

/- Lists of literals in rows. -/
def iI (l : List Int) : List I := l.map (.i .i64)
@[simp] theorem iI_len (l : List Int) : (iI l).length = l.length := by simp [iI]
theorem iI_get {l : List Int} {i : Nat} {x : Int} (h : l[i]? = some x) : (iI l)[i]? = some (.i .i64 x) := by simp [iI, h]
theorem on1_iI (l : List Int) : on1 (iI l) = celI l := by
 unfold on1 iI celI
 rw [List.map_map]
 rfl
theorem noAg_iI (l : List Int) : noAg (iI l) := fun x hx => by
 obtain ⟨y, _, rfl⟩ := List.mem_map.1 hx
 rfl
theorem iI_app (l m : List Int) : iI l ++ iI m = iI (l ++ m) := by simp [iI]
theorem iI_drop (l : List Int) (k : Nat) : (iI l).drop k = iI (l.drop k) := by simp [iI]
def zI (l : List Int) : I := zL (iI l)
theorem zI_sl (l : List Int) : IsSl (zI l) (celI l) := by
 have := zL_sl (iI l)
 rwa [on1_iI] at this
theorem dI_zI (l : List Int) : dI (zI l) = l := by
 unfold zI zL
 split
 ·rename_i h
  have : l = [] := by simpa [iI] using h
  subst this
  rfl
 ·rw [on1_iI, dI_celI]
theorem cl_zI {l : List Int} (h : l.length ≤ 9223372036854775807) : IsSl (zI l) (celI (dI (zI l))) ∧ (dI (zI l)).length ≤ 9223372036854775807 := by
 rw [dI_zI]
 exact ⟨zI_sl l, h⟩

theorem insU_cut {out : List Int} {x : Int} : ∀ (k : Nat), k ≤ out.length → (∀ j y, j < k → out[j]? = some y → litLt y x = true) → insU litLt x out = out.take k ++ insU litLt x (out.drop k) := by
 induction out with
 | nil =>
  intro k hk _
  have : k = 0 := by simpa using hk
  subst this
  rfl
 | cons y r ih =>
  intro k hk h
  cases k with
  | zero => rfl
  | succ k =>
   have h0 := h 0 y (by omega) rfl
   have e : insU litLt x (y :: r) = y :: insU litLt x r := by
    show (if litLt y x = true then y :: insU litLt x r else _) = _
    rw [if_pos h0]
   rw [e, ih k (by simpa using hk) fun j z hj hz => h (j + 1) z (by omega) hz]
   rfl
theorem insU_stop {out : List Int} {x : Int} (hx : ¬ x ∈ out) {k : Nat} (h : ∀ y, out[k]? = some y → litLt y x = false) : insU litLt x (out.drop k) = x :: out.drop k := by
 cases hd : out[k]? with
 | none =>
  have := List.getElem?_eq_none_iff.1 hd
  rw [List.drop_eq_nil_of_le this]
  rfl
 | some y =>
  rw [(get_drop hd).2]
  show (if litLt y x = true then _ else if x = y then _ else _) = _
  rw [h y hd, if_neg (by simp), if_neg]
  rintro rfl
  exact hx (List.mem_of_getElem? hd)

set_option maxHeartbeats 4000000 in
theorem sorted_r {z : I} {c : List Int} (hz : IsSl z (celI c)) (hc : c.length ≤ 100000) (hs : Sm c) (H : Hp) : Gives G 41 [.m z] H (.m (zI (nrm c))) H := by
 refine gives_pur rfl rfl rfl rfl rfl ?_
 have hr := hz.rules
 simp only [celI_len] at hr
 simp (maxSteps := 2000000) (disch := omega) [gd_in, gd_and, wr_i64, hr]
 refine (?key : ∀ (i : Nat) (o : V) (B : List (Nat × List V)) (H : Hp), i ≤ c.length → LR 3 (iI (nrm (c.take i))) o H (fun _ => True) → Run G c41_B1 (S41_1 (.m z) o (.m (.i .i64 i)) B H) _) 0 _ [] [] (Nat.zero_le _) LR.nil
 refine indM (fun i : Nat => c.length - i) fun i ih o B H hi ho => ?_
 unfold c41_B1
 obtain ⟨o1, o2, o3, o4⟩ := ho.nf
 simp only [iI_len] at o4
 cases hx : c[i]? with
 | none =>
  have : i = c.length := by have := List.getElem?_eq_none_iff.1 hx; omega
  subst this
  have hv := ho.viewR
  rw [List.take_length] at hv
  have hv2 : viewR H o = some (.m (zI (nrm c))) := hv
  simp (maxSteps := 2000000) (disch := omega) [gd_in, gd_and, wr_i64, hr, hv2, setC_v o1, o1]
 | some x =>
  have hlt := (List.getElem?_eq_some_iff.1 hx).1
  have hlt' : (i : Int) < c.length := by omega
  have hn := celI_nth hx
  have wi : wr .i64 ((i : Int) + 1) = ((i + 1 : Nat) : Int) := wr_i64 (by omega) (by omega)
  have sx := hs x (List.mem_of_getElem? hx)
  have hnx : nrm (c.take (i + 1)) = insU litLt x (nrm (c.take i)) := by
   rw [take_succ_get hx]
   exact srtU_snoc _ _
  have hol : (nrm (c.take i)).length ≤ i := by
   have := srtU_len litLt (c.take i)
   rw [List.length_take] at this
   unfold nrm
   omega
  have hso : Sm (nrm (c.take i)) := fun y hy => hs y (List.mem_of_mem_take (mem_nrm.1 hy))
  have hinc : Inc litLt (nrm (c.take i)) := srtU_inc sto_lit _
  have ih := fun o B H => ih (i + 1) (by omega) o B H (by omega)
  rw [hnx] at ih
  generalize nrm (c.take i) = out at *
  have gh : Gives G 65 [o, .m (.i .i64 x)] H (.m (.b (decide (x ∈ out)))) H := ho.call (ys := [.i .i64 x]) rfl rfl (has_r (zI_sl out) (by omega) x []) rfl
  by_cases hm : x ∈ out
  ·rw [decide_eq_true hm] at gh
   have e : insU litLt x out = out := inc_uniq sto_lit (insU_inc sto_lit hinc) hinc fun y => by
    rw [mem_insU]
    exact ⟨fun h => h.elim (fun e => e ▸ hm) id, .inr⟩
   rw [e] at ih
   simp (maxSteps := 2000000) (disch := omega) [gd_in, gd_and, wr_i64, hr, hlt, hlt', hn, cl gh, wi, -Int.natCast_add]
   exact ih _ _ _ ho
  ·rw [decide_eq_false hm] at gh
   have ho0 : LR 3 (iI out) o H (fun r => r < H.length) := ho.keep (fun _ _ => rfl) (fun r _ h => h)
   generalize hn0 : H.length = n0 at ho0
   simp (maxSteps := 2000000) (disch := omega) [gd_in, gd_and, wr_i64, hr, hlt, hlt', hn, cl gh]
   refine (?key2 : ∀ (k : Nat) (o' : V) (B : List (Nat × List V)) (H' : Hp), k ≤ out.length → LR 3 (iI out) o H' (· < n0) → LR 3 (iI (out.take k)) o' H' (n0 ≤ ·) → n0 ≤ H'.length → (∀ j y, j < k → out[j]? = some y → litLt y x = true) →
    Run G c41_B0 (S41_0 (.m z) o (.m (.i .i64 i)) o' (.m (.i .i64 k)) B H') _) 0 _ _ _ (Nat.zero_le _) ho0 LR.nil (by omega) (fun j y hj => by omega)
   clear ho0 ho gh
   refine indM (fun k : Nat => out.length - k) fun k ihk o' B H' hk ho ho' hnl hj => ?_
   unfold c41_B0
   have ax : noAg [I.i .i64 x] := fun y hy => by rw [List.mem_singleton] at hy; subst hy; rfl
   have wk : wr .i64 ((k : Int) + 1) = ((k + 1 : Nat) : Int) := wr_i64 (by omega) (by omega)
   have fin : (∀ y, out[k]? = some y → litLt y x = false) → ∃ p1 o2 H2 o3 H3, (∀ B, loudX (fun _ _ _ => none) ⟨B, H'⟩ (.app 3 1 8) [o', .ls [[.i .i64 x]]] = some (o2, ⟨B, H2⟩)) ∧ noFaV o2 = true ∧ pureX (.slc 1 true false false) [o, .m (.i .i64 (k : Int))] = some p1 ∧ noFaV p1 = true ∧
     (∀ B, loudX (fun _ _ _ => none) ⟨B, H2⟩ (.app 3 1 8) [o2, p1] = some (o3, ⟨B, H3⟩)) ∧ noFaV o3 = true ∧ LR 3 (iI (insU litLt x out)) o3 H3 (fun _ => True) := fun hst => by
    obtain ⟨o2, H2, a1, a2, a3, a4, a5, a6⟩ := ho'.push (b := 8) (ys := [.i .i64 x]) hnl (by omega) (by simp; omega) ax
    have hoo := ho.keep (H' := H2) (ok' := (· < n0)) (fun r hr => a6 r hr) (fun r hr _ => hr)
    obtain ⟨p1, b1, b2, b3⟩ := hoo.from (k := k) (by simpa using hk)
    rw [iI_drop] at b3
    obtain ⟨o3, H3, d1, d2, d3, d4, d5, d6⟩ := a3.push (b := 8) (ys := iI (out.drop k)) a4 (by omega) (by simp; omega) (noAg_iI _)
    refine ⟨p1, o2, H2, o3, H3, fun B => (loud_elems rfl).trans (a1 B), a2, b1, b2, fun B => (loud_elems b3).trans (d1 B), d2, ?_⟩
    have e : iI (out.take k) ++ [I.i .i64 x] ++ iI (out.drop k) = iI (insU litLt x out) := by
     rw [insU_cut k hk hj, insU_stop hm hst]
     simp [iI]
    rw [e] at d3
    exact d3.keep (fun _ _ => rfl) (fun _ _ _ => trivial)
   obtain ⟨q1, q2, q3, q4⟩ := ho'.nf
   cases hy : out[k]? with
   | none =>
    have hkl := List.getElem?_eq_none_iff.1 hy
    have hkn : ¬ k < out.length := by omega
    have hkn' : ¬ (k : Int) < out.length := by omega
    obtain ⟨p1, o2, H2, o3, H3, a1, a2, b1, b2, d1, d2, d3⟩ := fin fun y h => by rw [hy] at h; cases h
    simp (maxSteps := 2000000) (disch := omega) [gd_in, gd_and, wr_i64, gcall_cx, hr, o4, hkn, hkn', hlt, hlt', hn, -loud_app, a1, b1, d1, setC_v b2, setC_v o1, setC_v q1, setC_v a2, setC_v d2, wi, -Int.natCast_add]
    exact ih _ _ _ d3
   | some y =>
    have hkl := (List.getElem?_eq_some_iff.1 hy).1
    have hkl' : (k : Int) < out.length := by omega
    have sy := hso y (List.mem_of_getElem? hy)
    obtain ⟨p, e1, e2, e3⟩ := ho.rd (iI_get hy)
    have gb := fun H => before_r y x sy sx H
    cases hb : litLt y x with
    | true =>
     rw [hb] at gb
     have ay : noAg [I.i .i64 y] := fun u hu => by rw [List.mem_singleton] at hu; subst hu; rfl
     obtain ⟨o2, H2, a1, a2, a3, a4, a5, a6⟩ := ho'.push (b := 8) (ys := [.i .i64 y]) hnl (by omega) (by simp; omega) ay
     rw [show iI (out.take k) ++ [I.i .i64 y] = iI (out.take (k + 1)) from by rw [take_succ_get hy]; simp [iI]] at a3
     have a1 : ∀ B, appX ⟨B, H'⟩ 3 1 8 o' [[.m (.i .i64 y)]] = some (o2, ⟨B, H2⟩) := a1
     have hoo := ho.keep (H' := H2) (ok' := (· < n0)) (fun r hr => a6 r hr) (fun r hr _ => hr)
     have kk := fun B => ihk (k + 1) (by omega) o2 B H2 (by omega) hoo a3 a4 fun j u hj' hu => by
      by_cases c : j < k
      ·exact hj j u c hu
      ·have : j = k := by omega
       subst this
       rw [hy] at hu
       cases hu
       exact hb
     simp (maxSteps := 2000000) (disch := omega) [gd_in, gd_and, wr_i64, gcall_cx, hr, o4, hkl, hkl', hlt, hlt', hn, e1, e3, cl (gb _), a1, setC_v o1, setC_v q1, setC_v a2, setC_v e2, wk, -Int.natCast_add]
     exact kk _
    | false =>
     rw [hb] at gb
     obtain ⟨p1, o2, H2, o3, H3, a1, a2, b1, b2, d1, d2, d3⟩ := fin fun u h => by rw [hy] at h; cases h; exact hb
     simp (maxSteps := 2000000) (disch := omega) [gd_in, gd_and, wr_i64, gcall_cx, hr, o4, hkl, hkl', hlt, hlt', hn, e1, e3, cl (gb _), -loud_app, a1, b1, d1, setC_v b2, setC_v o1, setC_v q1, setC_v a2, setC_v d2, setC_v e2, wi, -Int.natCast_add]
     exact ih _ _ _ d3
end Go.Mx.Tryz
