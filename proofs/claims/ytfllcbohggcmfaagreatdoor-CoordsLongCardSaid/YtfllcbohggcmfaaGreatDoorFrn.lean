/- pattern.From at the machine. -/
import Derived.Test.YtfllcbohggcmfaaGreatDoorSrx
import Derived.Test.YtfllcbohggcmfaaGreatDoorPt
import Derived.Test.YtfllcbohggcmfaaGreatDoorStr
import Derived.KernelRfl
set_option linter.unusedSimpArgs false
set_option linter.unusedVariables false
set_option linter.unusedSectionVars false
set_option maxRecDepth 100000
namespace Go.Mx.Tryz
open Go.Sort Go.Lib
instance : Inhabited Ce := ⟨⟨0, 0, 0⟩⟩
def ceRw : Rw Ce 3 true where
 enc c := c.i.map .m
 val c := .m (.ag c.i)
 len c := rfl
 pos := by decide
 one c := rfl
 ld c := by simp [Ce.i]
 st c := by simp [Ce.i]
def ceCmp (A : Hp) : Cmp ceRw A 45 less where
 ok _ := True
 ext _ _ _ := trivial
 cmp a b := cmpP a.x a.y b.x b.y
 neg a b := by
  unfold cmpP less
  grind [cmpI]
 run a b row C _ := order_s a b _
theorem less_swo : SWO less where
 irrefl x := by simp [less]
 trans x y z h1 h2 := by simp only [less, decide_eq_true_eq] at *; omega
 ntrans x y z h1 h2 := by simp only [less, decide_eq_false_iff_not] at *; omega
end Go.Mx.Tryz

set_option maxRecDepth 100000
namespace Go.Mx.Tryz
open Go.Sort Go.Lib Go.Proofs

def badC (c : Ce) : Option Int := if placed c.x c.y = false then some 5 else if c.s < 0 ∨ 8 ≤ c.s then some 10 else none
def bad : List Ce → Option Int
 | [] => none
 | c :: r => match badC c with
  | some e => some e
  | none => bad r
def liv (p : List Ce) : List Ce := p.filter fun c => decide (0 < c.s)
def rows3 (p : List Ce) : List (List V) := p.map ceRw.enc
@[simp] theorem rows3_len (p : List Ce) : (rows3 p).length = p.length := by simp [rows3]
theorem rows3_nth {p : List Ce} {i : Nat} {c : Ce} (h : p[i]? = some c) : nth (rows3 p) i = some [.m (.i .i64 c.x), .m (.i .i64 c.y), .m (.i .i64 c.s)] := by
 rw [nth_get]
 simp [rows3, h, ceRw, Ce.i]
def zP (p : List Ce) : I := if p = [] then .nl 4 else .sl (cells3 p)
theorem zP_sl (p : List Ce) : IsSl (zP p) (cells3 p) := by
 unfold zP
 split
 ·rename_i h; subst h; exact isSl_nil
 ·exact isSl_sl _
def OutP (f : List Ce) (o : V) (H : Hp) : Prop := (f = [] ∧ o = .m (.nl 4) ∧ H = []) ∨ (f ≠ [] ∧ o = .sl 0 f.length 3 0 f.length false ∧ H = [.cs 40 3 (rows3 f) 0 false])
theorem outP_push {f : List Ce} {o : V} {H : Hp} (h : OutP f o H) (hl : f.length ≤ 1000000) (c : Ce) : ∃ o1 H1, (∀ B, appX ⟨B, H⟩ 40 3 24 o [[.m (.i .i64 c.x), .m (.i .i64 c.y), .m (.i .i64 c.s)]] = some (o1, ⟨B, H1⟩)) ∧ noFaV o1 = true ∧ OutP (f ++ [c]) o1 H1 := by
 rcases h with ⟨rfl, rfl, rfl⟩ | ⟨hne, rfl, rfl⟩
 ·exact ⟨_, _, fun B => rfl, rfl, .inr ⟨by simp, rfl, rfl⟩⟩
 ·have ha := fun B => app_row (M := ⟨B, [.cs 40 3 (rows3 f) 0 false]⟩) (r := 0) (bytes := 24) (xs := [[.m (.i .i64 c.x), .m (.i .i64 c.y), .m (.i .i64 c.s)]]) rfl (by simp) (by simp; omega) rfl
  simp only [rows3_len, List.length_cons, List.length_nil, Nat.zero_add, List.set_cons_zero] at ha
  have e : rows3 f ++ [[.m (.i .i64 c.x), .m (.i .i64 c.y), .m (.i .i64 c.s)]] = rows3 (f ++ [c]) := by simp [rows3, ceRw, Ce.i]
  rw [e] at ha
  exact ⟨_, _, ha, rfl, .inr ⟨by simp, by simp, rfl⟩⟩
def tw : List Ce → Bool
 | [] => false
 | [_] => false
 | a :: b :: r => decide (a.x = b.x ∧ a.y = b.y) || tw (b :: r)
def resP (q : List Ce) : V := if tw q = true then .tu [.m (.nl 4), .m (.i .i64 8)] else if 5000 < q.length then .tu [.m (.nl 4), .m (.i .i64 6)] else .tu [.m (zP q), .m (.i .i64 0)]
def Asc (q : List Ce) : Prop := ∀ (i j : Nat) (a b : Ce), i < j → q[i]? = some a → q[j]? = some b → less b a = false

theorem sort_nil (H : Hp) : Gives G 44 [.m (.nl 4), .m (.fn 45 [])] H (.tu []) H := ⟨40, by kernel_rfl⟩
theorem viewP {r b n : Nat} {X A : Hp} {q : List Ce} (hn : q.length = n) (hb : b ≤ n) (k : Nat) : view (k + 2) (.cs 40 3 (rows3 q) b false :: X) (.sl 0 n 3 0 n false) = some (.sl (cells3 q)) := by
 have e : elems (.cs 40 3 (rows3 q) b false :: X) (.sl 0 n 3 0 n false) = some (rows3 q) := by
  show gd (Nat.ble b n && Nat.beq 3 3) (some (((rows3 q).drop 0).take n)) = _
  rw [ble_dec, decide_eq_true hb, List.drop_zero, List.take_of_length_le (by simp; omega)]
  rfl
 show Option.bind (elems _ (.sl 0 n 3 0 n false)) _ = _
 rw [e]
 show Option.bind (optMap _ (rows3 q)) _ = _
 have ho : ∀ (H : Hp) (m : List Ce), optMap (fun e => optMap (view (k + 1) H) e) (rows3 m) = some (cells3 m) := by
  intro H m
  induction m with
  | nil => rfl
  | cons x t ih =>
   show Option.bind (some [I.i .i64 x.x, .i .i64 x.y, .i .i64 x.s]) _ = _
   simp only [Option.bind_some]
   show Option.bind (optMap _ (rows3 t)) _ = _
   rw [ih]
   rfl
 rw [ho]
 rfl
theorem perm_lists {f : List Ce} {d' : Array Ce} (h : PermIn 0 f.length f.toArray d') : d'.toList.Perm f ∧ d'.size = f.length := by
 have hs : d'.size = f.length := by rw [h.1]; simp
 refine ⟨?_, hs⟩
 have hp := h.2.2
 have e1 : (d'.extract 0 f.length) = d' := by rw [← hs]; simp
 have e2 : (f.toArray.extract 0 f.length) = f.toArray := by
  have : f.length = f.toArray.size := by simp
  rw [this]; simp
 rw [e1, e2] at hp
 simpa using hp
theorem asc_of {d' : Array Ce} {n : Nat} (hs : d'.size = n) (h : SortedIn less 0 n d') : Asc d'.toList := fun i j a b hij ha hb => by
 obtain ⟨h1, rfl⟩ := List.getElem?_eq_some_iff.1 ha
 obtain ⟨h2, rfl⟩ := List.getElem?_eq_some_iff.1 hb
 have h1' : i < d'.size := by simpa using h1
 have h2' : j < d'.size := by simpa using h2
 have := h i j (Nat.zero_le _) hij (by omega)
 rw [getElem!_pos d' j h2', getElem!_pos d' i h1'] at this
 simpa using this

theorem bad_take : ∀ (p : List Ce) (i : Nat), i ≤ p.length → bad (p.take i) = none → bad p = bad (p.drop i)
 | p, 0, _, _ => rfl
 | [], i + 1, h, _ => by simp at h
 | c :: r, i + 1, h, hb => by
  have e1 : bad (c :: r.take i) = match badC c with | some e => some e | none => bad (r.take i) := rfl
  have e2 : bad (c :: r) = match badC c with | some e => some e | none => bad r := rfl
  rw [List.take_succ_cons, e1] at hb
  rw [List.drop_succ_cons, e2]
  cases hc : badC c with
  | some e => rw [hc] at hb; cases hb
  | none =>
   rw [hc] at hb
   exact bad_take r i (by simpa using h) hb
theorem readR_3 (es : List (List V)) (ix : Nat) : readR 3 es ix 0 3 = (nth es ix).bind fun e => takeN 3 e := rfl

set_option maxHeartbeats 2000000 in
theorem from_w {v : I} {p : List Ce} (hv : IsSl v (cells3 p)) (hl : p.length ≤ 1000000) (H : Hp) :
  (∃ e, bad p = some e ∧ Gives G 21 [.m v] H (.tu [.m (.nl 4), .m (.i .i64 e)]) H) ∨ (bad p = none ∧ ∃ q, q.Perm (liv p) ∧ Asc q ∧ Gives G 21 [.m v] H (resP q) H) := by
 have hr := hv.rules
 have key : ∃ x H', Gives G 21 [.m v] H x H' ∧ (H' = H ∧ ((∃ e, bad p = some e ∧ x = .tu [.m (.nl 4), .m (.i .i64 e)]) ∨ (bad p = none ∧ ∃ q, q.Perm (liv p) ∧ Asc q ∧ x = resP q))) := by
  refine gives_of_ret ?_
  refine ret_pur rfl rfl rfl rfl rfl ?_
  simp (maxSteps := 2000000) (disch := omega) [gd_in, gd_and, wr_i64, hr]
  refine (?key : ∀ (i : Nat) (o : V) (B : List (Nat × List V)) (H1 : Hp), i ≤ p.length → OutP (liv (p.take i)) o H1 → bad (p.take i) = none → bad p = bad (p.drop i) → Run G c21_B0 (S21_0 o (.m v) (.m (.i .i64 p.length)) (.m (.i .i64 (i : Int))) B H1) _) 0 (.m (.nl 4)) [] [] (Nat.zero_le _) (.inl ⟨rfl, rfl, rfl⟩) rfl rfl
  refine indM (fun i : Nat => p.length - i) fun i ih o B H1 hi ho hbt hb => ?_
  have hnf : noFaV o = true := by
   rcases ho with ⟨_, rfl, _⟩ | ⟨_, rfl, _⟩ <;> rfl
  have hfl : (liv (p.take i)).length ≤ i := Nat.le_trans (List.length_filter_le _ _) (by rw [List.length_take]; omega)
  unfold c21_B0
  cases hx : p[i]? with
  | some c =>
   have hlt := (get_drop hx).1
   have hlt' : (i : Int) < p.length := by omega
   have hn := cells3_nth hx
   have wi : wr .i64 ((i : Int) + 1) = (i : Int) + 1 := wr_i64 (by omega) (by omega)
   have g1 := fun H => at_s c H
   have g2 := fun H => placed_s c.x c.y H
   have e1 : bad (c :: p.drop (i + 1)) = match badC c with | some e => some e | none => bad (p.drop (i + 1)) := rfl
   rw [(get_drop hx).2, e1] at hb
   have htk : p.take (i + 1) = p.take i ++ [c] := take_succ_get hx
   by_cases hp : placed c.x c.y = true
   ·rw [hp] at g2
    by_cases hs0 : c.s < 0
    ·have hbc : badC c = some 10 := by unfold badC; rw [if_neg (by rw [hp]; simp), if_pos (.inl hs0)]
     rw [hbc] at hb
     simp (maxSteps := 2000000) (disch := omega) [gd_in, gd_and, wr_i64, hr, hlt, hlt', hn, cl (g1 _), cl (g2 _), hs0, hb]
    by_cases hs8 : 8 ≤ c.s
    ·have hbc : badC c = some 10 := by unfold badC; rw [if_neg (by rw [hp]; simp), if_pos (.inr hs8)]
     rw [hbc] at hb
     simp (maxSteps := 2000000) (disch := omega) [gd_in, gd_and, wr_i64, hr, hlt, hlt', hn, cl (g1 _), cl (g2 _), hs0, hs8, hb]
    have hbc : badC c = none := by unfold badC; rw [if_neg (by rw [hp]; simp), if_neg (by omega)]
    rw [hbc] at hb
    replace hb : bad p = bad (p.drop (i + 1)) := hb
    have hbt2 : bad (p.take (i + 1)) = none := by
     rw [htk]
     have : ∀ l : List Ce, bad l = none → bad (l ++ [c]) = none := fun l => by
      induction l with
      | nil => intro _; show (match badC c with | some e => some e | none => none) = none; rw [hbc]
      | cons d r ih =>
       intro h
       have f1 : bad (d :: r) = match badC d with | some e => some e | none => bad r := rfl
       have f2 : bad (d :: (r ++ [c])) = match badC d with | some e => some e | none => bad (r ++ [c]) := rfl
       rw [List.cons_append, f2]
       rw [f1] at h
       cases hd : badC d with
       | some e => rw [hd] at h; cases h
       | none => rw [hd] at h; exact ih h
     exact this _ hbt
    by_cases hs1 : 0 < c.s
    ·have hlv : liv (p.take (i + 1)) = liv (p.take i) ++ [c] := by
      rw [htk]
      unfold liv
      rw [List.filter_append]
      simp [hs1]
     obtain ⟨o1, H2, ha, hn1, ho1⟩ := outP_push ho (by omega) c
     rw [← hlv] at ho1
     simp (maxSteps := 2000000) (disch := omega) [gd_in, gd_and, wr_i64, hr, hlt, hlt', hn, cl (g1 _), cl (g2 _), hs0, hs8, hs1, ha, setC_v hn1, wi]
     exact ih (i + 1) (by omega) _ _ _ (by omega) ho1 hbt2 hb
    ·have hlv : liv (p.take (i + 1)) = liv (p.take i) := by
      rw [htk]
      unfold liv
      rw [List.filter_append]
      simp [hs1]
     rw [← hlv] at ho
     simp (maxSteps := 2000000) (disch := omega) [gd_in, gd_and, wr_i64, hr, hlt, hlt', hn, cl (g1 _), cl (g2 _), hs0, hs8, hs1, wi]
     exact ih (i + 1) (by omega) _ _ _ (by omega) ho hbt2 hb
   ·rw [Bool.not_eq_true] at hp
    rw [hp] at g2
    have hbc : badC c = some 5 := by unfold badC; rw [if_pos hp]
    rw [hbc] at hb
    simp (maxSteps := 2000000) (disch := omega) [gd_in, gd_and, wr_i64, hr, hlt, hlt', hn, cl (g1 _), cl (g2 _), hb]
  | none =>
   have : i = p.length := by have := List.getElem?_eq_none_iff.1 hx; omega
   subst this
   have hb0 : bad p = none := by rw [hb, List.drop_length]; rfl
   rw [List.take_length] at ho
   rcases ho with ⟨hf, rfl, rfl⟩ | ⟨hf, rfl, rfl⟩
   ·have gs := fun H => sort_nil H
    simp (maxSteps := 2000000) (disch := omega) [gd_in, gd_and, wr_i64, hr, cl (gs _), hb0]
    unfold c21_B1
    simp (maxSteps := 2000000) (disch := omega) [gd_in, gd_and, wr_i64, hr, hb0]
    exact ⟨[], by rw [hf], fun i j a b _ h => by simp at h, rfl⟩
   ·generalize hfe : liv p = f at *
    clear ih hx
    have hfl2 : f.length ≤ 1000000 := by rw [← hfe]; exact Nat.le_trans (List.length_filter_le _ _) (by omega)
    simp (maxSteps := 2000000) (disch := omega) [gd_in, gd_and, wr_i64, hr]
    rw [callC_some]
    have hrow : Row.cs 40 3 (rows3 f) 0 false = .cs 40 3 (rowA ceRw f.toArray) 0 false := by simp [rowA, rows3]
    rw [hrow]
    refine sortf_w (A := []) (ceCmp []) less_swo (n := f.length) (by omega) [] trivial f.toArray 0 (by simp) (Nat.zero_le _) _ fun d' b1 X hp hso hb1 => ?_
    obtain ⟨hperm, hsz⟩ := perm_lists hp
    have hasc := asc_of hsz hso
    have hrow2 : rowA ceRw d' = rows3 d'.toList := rfl
    have hql : d'.toList.length = f.length := by simpa using hsz
    rw [hrow2]
    generalize d'.toList = q at *
    have hres : resP q = if tw q = true then .tu [.m (.nl 4), .m (.i .i64 8)] else if 5000 < q.length then .tu [.m (.nl 4), .m (.i .i64 6)] else .tu [.m (zP q), .m (.i .i64 0)] := rfl
    have hq0 : q ≠ [] := fun e => by subst e; simp at hql; exact hf (List.eq_nil_of_length_eq_zero hql.symm)
    obtain ⟨a0, r0, hqe⟩ := List.exists_cons_of_ne_nil hq0
    simp (maxSteps := 2000000) (disch := omega) [gd_in, gd_and, wr_i64, hr]
    refine (?key2 : ∀ (j : Nat) (B : List (Nat × List V)), 1 ≤ j → j ≤ q.length → tw q = tw (q.drop (j - 1)) → Run G c21_B1 (S21_1 (.sl 0 f.length 3 0 f.length false) (.m (.i .i64 (j : Int))) B (.cs 40 3 (rows3 q) b1 false :: X)) _) 1 _ (Nat.le_refl _) (by have := List.length_pos_iff.2 hq0; omega) rfl
    refine indM (fun j : Nat => q.length - j) fun j ih B h1j hj htw => ?_
    unfold c21_B1
    have wj : wr .i64 ((j : Int) + 1) = (j : Int) + 1 := wr_i64 (by omega) (by omega)
    have wj1 : wr .i64 ((j : Int) - 1) = (j : Int) - 1 := wr_i64 (by omega) (by omega)
    cases hx : q[j]? with
    | some c =>
     have hlt := (get_drop hx).1
     obtain ⟨a, ha⟩ : ∃ a, q[j - 1]? = some a := ⟨q[j - 1]'(by omega), List.getElem?_eq_getElem _⟩
     have hlt' : (j : Int) < f.length := by omega
     have hltn : j < f.length := by omega
     have hltm : (j : Int) - 1 < f.length := by omega
     have h0m : (0 : Int) ≤ (j : Int) - 1 := by omega
     have htn : ((j : Int) - 1).toNat = j - 1 := by omega
     have hn := rows3_nth hx
     have hna := rows3_nth ha
     have e0 : q.drop (j - 1) = a :: c :: q.drop (j + 1) := by
      have := (get_drop ha).2
      rw [this, show j - 1 + 1 = j by omega, (get_drop hx).2]
     have e1 : tw (a :: c :: q.drop (j + 1)) = (decide (a.x = c.x ∧ a.y = c.y) || tw (c :: q.drop (j + 1))) := rfl
     rw [e0, e1] at htw
     have g1 := fun H => at_s a H
     have g2 := fun H => at_s c H
     by_cases heq : a.x = c.x ∧ a.y = c.y
     ·rw [decide_eq_true heq, Bool.true_or] at htw
      rw [htw, if_pos rfl] at hres
      have heq1 : (decide (a.x = c.x) && decide (a.y = c.y)) = true := by simpa using heq
      simp (maxSteps := 2000000) (disch := omega) [gd_in, gd_and, wr_i64, hlt', hltn, hltm, h0m, htn, wj1, hb1, readR_3, hn, hna, cl (g1 _), cl (g2 _), heq1, hb0]
      exact ⟨q, hperm, hasc, hres.symm⟩
     ·rw [decide_eq_false heq, Bool.false_or] at htw
      have heq2 : (decide (a.x = c.x) && decide (a.y = c.y)) = false := by
       rw [Bool.eq_false_iff]
       simpa using heq
      simp (maxSteps := 2000000) (disch := omega) [gd_in, gd_and, wr_i64, hlt', hltn, hltm, h0m, htn, wj1, hb1, readR_3, hn, hna, cl (g1 _), cl (g2 _), heq2, wj]
      exact ih (j + 1) (by omega) _ (by omega) (by omega) (by rw [htw, show j + 1 - 1 = j by omega, (get_drop hx).2])
    | none =>
     have : j = q.length := by have := List.getElem?_eq_none_iff.1 hx; omega
     have hlt' : ¬ (j : Int) < f.length := by omega
     have htw0 : tw q = false := by
      rw [htw]
      have : (q.drop (j - 1)).length = 1 := by rw [List.length_drop]; omega
      match hm : q.drop (j - 1), this with
      | [x], _ => rfl
     rw [htw0, if_neg (by simp)] at hres
     by_cases h5 : 5000 < q.length
     ·have h5' : (5000 : Int) < f.length := by omega
      rw [if_pos h5] at hres
      simp (maxSteps := 2000000) (disch := omega) [gd_in, gd_and, wr_i64, hlt', h5', hb0]
      exact ⟨q, hperm, hasc, hres.symm⟩
     ·have h5' : ¬ (5000 : Int) < f.length := by omega
      rw [if_neg h5] at hres
      have hv := viewP (r := 0) (X := X) (A := []) hql hb1 18
      simp (maxSteps := 2000000) (disch := omega) [gd_in, gd_and, wr_i64, hlt', h5', hb0, hv]
      refine ⟨q, hperm, hasc, ?_⟩
      rw [hres]
      unfold zP
      rw [if_neg hq0]
 obtain ⟨x, H', h1, rfl, h2⟩ := key
 rcases h2 with ⟨e, h3, rfl⟩ | ⟨h3, q, h4, h5, rfl⟩
 ·exact .inl ⟨e, h3, h1⟩
 ·exact .inr ⟨h3, q, h4, h5, h1⟩
end Go.Mx.Tryz
namespace Go.Mx.Tryz
open Go.Lib
theorem viewPg {H : Hp} {r b : Nat} {q : List Ce} (h : nth H r = some (.cs 40 3 (rows3 q) b false)) (hb : b ≤ q.length) (k : Nat) : view (k + 2) H (.sl r q.length 3 0 q.length false) = some (.sl (cells3 q)) := by
 have e : elems H (.sl r q.length 3 0 q.length false) = some (rows3 q) := by
  show Option.bind (nth H r) _ = _
  rw [h]
  show gd (Nat.ble b q.length && Nat.beq 3 3) (some (((rows3 q).drop 0).take q.length)) = _
  rw [ble_dec, decide_eq_true hb, List.drop_zero, List.take_of_length_le (by simp)]
  rfl
 show Option.bind (elems H (.sl r q.length 3 0 q.length false)) _ = _
 rw [e]
 show Option.bind (optMap _ (rows3 q)) _ = _
 have ho : ∀ (H : Hp) (m : List Ce), optMap (fun e => optMap (view (k + 1) H) e) (rows3 m) = some (cells3 m) := by
  intro H m
  induction m with
  | nil => rfl
  | cons x t ih =>
   show Option.bind (some [I.i .i64 x.x, .i .i64 x.y, .i .i64 x.s]) _ = _
   simp only [Option.bind_some]
   show Option.bind (optMap _ (rows3 t)) _ = _
   rw [ih]
   rfl
 rw [ho]
 rfl
theorem rows3_isM (q : List Ce) : ((rows3 q).all fun e => e.all isM) = true := by
 simp [rows3, ceRw, Ce.i, isM]
end Go.Mx.Tryz
