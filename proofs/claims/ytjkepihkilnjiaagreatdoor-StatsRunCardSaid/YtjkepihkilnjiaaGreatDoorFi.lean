/- From of the reference: sorting by insertion. -/
import Derived.Test.YtjkepihkilnjiaaGreatDoorKp
set_option linter.unusedSimpArgs false
set_option linter.unusedVariables false
set_option linter.unusedSectionVars false
set_option maxRecDepth 100000
namespace Go.Mx.Tryz
open Go.Sort Go.Lib Go.Proofs

def insC (c : Ce) : List Ce → List Ce
 | [] => [c]
 | d :: r => if less c d = true then c :: d :: r else d :: insC c r
theorem insC_perm (c : Ce) : ∀ p, (insC c p).Perm (c :: p)
 | [] => List.Perm.refl _
 | d :: r => by
  unfold insC
  split
  ·exact List.Perm.refl _
  ·exact ((insC_perm c r).cons d).trans (List.Perm.swap c d r)
theorem insC_len (c : Ce) (p : List Ce) : (insC c p).length = p.length + 1 := (insC_perm c p).length_eq
theorem less_tr {a b c : Ce} (h1 : less a b = true) (h2 : less b c = true) : less a c = true := by
 unfold less at *
 simp at *
 omega
theorem less_apart {a b : Ce} (h : apart a b) (h1 : less a b = false) : less b a = true := by
 unfold less at *
 unfold apart at h
 simp at *
 omega
theorem apart_symm {a b : Ce} (h : apart a b) : apart b a := fun ⟨h1, h2⟩ => h ⟨h1.symm, h2.symm⟩
theorem insC_pw (c : Ce) : ∀ p : List Ce, p.Pairwise (fun a b => less a b = true) → (∀ d, d ∈ p → apart c d) → (insC c p).Pairwise (fun a b => less a b = true)
 | [], _, _ => by simp [insC]
 | d :: r, h, ha => by
  obtain ⟨h1, h2⟩ := List.pairwise_cons.1 h
  unfold insC
  split
  ·rename_i hl
   refine List.pairwise_cons.2 ⟨fun e he => ?_, h⟩
   rcases List.mem_cons.1 he with rfl | he
   ·exact hl
   ·exact less_tr hl (h1 e he)
  ·rename_i hl
   refine List.pairwise_cons.2 ⟨fun e he => ?_, insC_pw c r h2 fun e he => ha e (List.mem_cons_of_mem _ he)⟩
   rcases List.mem_cons.1 ((insC_perm c r).mem_iff.1 he) with rfl | he
   ·exact less_apart (ha d (List.mem_cons_self ..)) (by simpa using hl)
   ·exact h1 e he
def sortI (p : List Ce) : List Ce := p.foldl (fun a c => insC c a) []
theorem sortI_snoc (p : List Ce) (c : Ce) : sortI (p ++ [c]) = insC c (sortI p) := by simp [sortI]
theorem sortI_spec : ∀ n (p : List Ce), p.length = n → (sortI p).Perm p ∧ (p.Pairwise apart → (sortI p).Pairwise (fun a b => less a b = true))
 | 0, p, h => by
  have : p = [] := List.eq_nil_of_length_eq_zero h
  subst this
  exact ⟨List.Perm.refl _, fun _ => List.Pairwise.nil⟩
 | n + 1, p, h => by
  obtain ⟨q, c, rfl⟩ : ∃ q c, p = q ++ [c] := ⟨p.dropLast, p.getLast (by intro e; rw [e] at h; simp at h), (List.dropLast_concat_getLast _).symm⟩
  have hq : q.length = n := by simpa using h
  obtain ⟨h1, h2⟩ := sortI_spec n q hq
  rw [sortI_snoc]
  refine ⟨(insC_perm c _).trans ((h1.cons c).trans (List.perm_append_singleton c q).symm), fun hp => ?_⟩
  rw [List.pairwise_append] at hp
  refine insC_pw c _ (h2 hp.1) fun d hd => ?_
  exact apart_symm (hp.2.2 d (h1.mem_iff.1 hd) c (List.mem_singleton_self c))
theorem sortI_perm (p : List Ce) : (sortI p).Perm p := (sortI_spec _ p rfl).1
theorem sortI_pw {p : List Ce} (h : p.Pairwise apart) : (sortI p).Pairwise (fun a b => less a b = true) := (sortI_spec _ p rfl).2 h
theorem sortI_len (p : List Ce) : (sortI p).length = p.length := (sortI_perm p).length_eq
theorem outP_view {f : List Ce} {o : V} {H : Hp} (h : OutP f o H) : viewR H o = some (.m (zP f)) ∧ noFaV o = true := by
 rcases h with ⟨rfl, rfl, rfl⟩ | ⟨hne, rfl, rfl⟩
 ·exact ⟨rfl, rfl⟩
 ·have := viewP (r := 0) (b := 0) (X := []) (A := []) (q := f) (n := f.length) rfl (Nat.zero_le _) 18
  refine ⟨?_, rfl⟩
  show (view 20 _ _).bind _ = _
  rw [this]
  unfold zP
  rw [if_neg hne]
  rfl
set_option maxHeartbeats 2000000 in
theorem insert_r {v : I} {p : List Ce} (hv : IsSl v (cells3 p)) (hl : p.length ≤ 900000) (c : Ce) (H : Hp) : Gives G 70 [.m v, .m (.ag [.i .i64 c.x, .i .i64 c.y, .i .i64 c.s])] H (.m (zP (insC c p))) H := by
 have hr := hv.rules
 simp only [show (cells3 p).length = p.length from by simp [cells3]] at hr
 refine gives_pur rfl rfl rfl rfl rfl ?_
 simp (maxSteps := 2000000) (disch := omega) [gd_in, gd_and, wr_i64, hr]
 refine (?key : ∀ (i : Nat) (dn : Bool) (f : List Ce) (o : V) (B : List (Nat × List V)) (H1 : Hp), i ≤ p.length → (if dn then insC c p = f ++ p.drop i else f = p.take i ∧ insC c p = p.take i ++ insC c (p.drop i)) → OutP f o H1 → getB B 3 = some [.m (.i .i64 c.x), .m (.i .i64 c.y), .m (.i .i64 c.s)] → Run G c70_B0 (S70_0 (.m v) (.fa 3 0) o (.m (.b dn)) (.m (.i .i64 (i : Int))) B H1) _) 0 false [] _ _ _ (Nat.zero_le _) ⟨rfl, rfl⟩ (.inl ⟨rfl, rfl, rfl⟩) rfl
 refine indM (fun i : Nat => p.length - i) fun i ih dn f o B H1 hi hd ho hB => ?_
 obtain ⟨hvw, hnf⟩ := outP_view ho
 unfold c70_B0
 cases hx : p[i]? with
 | some d =>
  have hlt := (get_drop hx).1
  have hlt' : (i : Int) < p.length := by omega
  have hn := cells3_nth hx
  have wi : wr .i64 ((i : Int) + 1) = (i : Int) + 1 := wr_i64 (by omega) (by omega)
  have gb := fun H => before_r c d H
  have hdr := (get_drop hx).2
  have htk : p.take (i + 1) = p.take i ++ [d] := take_succ_get hx
  cases dn with
  | true =>
   simp only [if_true] at hd
   have hfl : f.length ≤ 900001 := by
    have := congrArg List.length hd
    rw [insC_len, List.length_append] at this
    omega
   obtain ⟨o1, H2, ha, hn1, ho1⟩ := outP_push ho (by omega) d
   simp (maxSteps := 2000000) (disch := omega) [gd_in, gd_and, wr_i64, hr, hlt, hlt', hn, wi, hB, gcall_cx, ha, setC_v hn1]
   exact ih (i + 1) (by omega) true _ _ _ _ (by omega) (by simp only [if_true]; rw [hd, hdr]; simp) ho1 hB
  | false =>
   simp only [Bool.false_eq_true, if_false] at hd
   obtain ⟨rfl, hd2⟩ := hd
   have hfl : (p.take i).length ≤ 900000 := by rw [List.length_take]; omega
   cases hb : less c d with
   | true =>
    rw [hb] at gb
    obtain ⟨o1, H2, ha, hn1, ho1⟩ := outP_push ho (by omega) c
    obtain ⟨o2, H3, ha2, hn2, ho2⟩ := outP_push ho1 (by simp; omega) d
    simp (maxSteps := 2000000) (disch := omega) [gd_in, gd_and, wr_i64, hr, hlt, hlt', hn, wi, hB, gcall_cx, cl (gb _), ha, setC_v hn1, ha2, setC_v hn2]
    refine ih (i + 1) (by omega) true _ _ _ _ (by omega) ?_ ho2 hB
    simp only [if_true]
    rw [hd2, hdr]
    simp [insC, hb]
   | false =>
    rw [hb] at gb
    obtain ⟨o1, H2, ha, hn1, ho1⟩ := outP_push ho (by omega) d
    simp (maxSteps := 2000000) (disch := omega) [gd_in, gd_and, wr_i64, hr, hlt, hlt', hn, wi, hB, gcall_cx, cl (gb _), ha, setC_v hn1]
    refine ih (i + 1) (by omega) false _ _ _ _ (by omega) ?_ ho1 hB
    simp only [Bool.false_eq_true, if_false]
    refine ⟨htk.symm, ?_⟩
    rw [hd2, hdr, htk]
    simp [insC, hb]
 | none =>
  have : i = p.length := by have := List.getElem?_eq_none_iff.1 hx; omega
  subst this
  clear ih
  cases dn with
  | true =>
   simp only [if_true, List.drop_length, List.append_nil] at hd
   simp (maxSteps := 2000000) (disch := omega) [gd_in, gd_and, wr_i64, hr, hvw, hnf, setC_v hnf, hd]
  | false =>
   simp only [Bool.false_eq_true, if_false, List.drop_length, List.take_length] at hd
   obtain ⟨rfl, hd2⟩ := hd
   obtain ⟨o1, H2, ha, hn1, ho1⟩ := outP_push ho (by omega) c
   obtain ⟨hvw1, _⟩ := outP_view ho1
   have e : insC c f = f ++ [c] := hd2
   simp (maxSteps := 2000000) (disch := omega) [gd_in, gd_and, wr_i64, hr, hB, ha, setC_v hn1, hvw1, hn1, e]

set_option maxHeartbeats 2000000 in
theorem refFrom_r {v : I} {p : List Ce} (hv : IsSl v (cells3 p)) (hl : p.length ≤ 5000) (hg : ∀ c, c ∈ p → good c = true) (ha : p.Pairwise apart) (H : Hp) : Gives G 56 [.m v] H (.tu [.m (zP (sortI p)), .m (.i .i64 0)]) H := by
 have hr := hv.rules
 simp only [show (cells3 p).length = p.length from by simp [cells3]] at hr
 refine gives_pur rfl rfl rfl rfl rfl ?_
 simp (maxSteps := 2000000) (disch := omega) [gd_in, gd_and, wr_i64, hr]
 refine (?key : ∀ (i : Nat) (B : List (Nat × List V)), i ≤ p.length → Run G c56_B0 (S56_0 (.m v) (.m (.nl 4)) (.m (.i .i64 (i : Int))) B []) _) 0 _ (Nat.zero_le _)
 refine indM (fun i : Nat => p.length - i) fun i ih B hi => ?_
 unfold c56_B0
 cases hx : p[i]? with
 | some c =>
  have hlt := (get_drop hx).1
  have hlt' : (i : Int) < p.length := by omega
  have hn := cells3_nth hx
  have wi : wr .i64 ((i : Int) + 1) = (i : Int) + 1 := wr_i64 (by omega) (by omega)
  obtain ⟨h1, h2, h3⟩ := good_bnd (hg c (List.mem_of_getElem? hx))
  have gp := fun H => placed_r c.x c.y H
  rw [h1] at gp
  have h4 : ¬ c.s < 0 := by omega
  have h5 : ¬ 8 ≤ c.s := by omega
  simp (maxSteps := 2000000) (disch := omega) [gd_in, gd_and, wr_i64, hr, hlt, hlt', hn, wi, cl (gp _), h4, h5]
  exact ih (i + 1) (by omega) _ (by omega)
 | none =>
  have : i = p.length := by have := List.getElem?_eq_none_iff.1 hx; omega
  subst this
  clear ih hx hi
  simp (maxSteps := 2000000) (disch := omega) [gd_in, gd_and, wr_i64, hr]
  refine (?key2 : ∀ (i : Nat) (z : I) (B : List (Nat × List V)), i ≤ p.length → z = zP (sortI (p.take i)) → Run G c56_B1 (S56_1 (.m v) (.m z) (.m (.i .i64 (i : Int))) B []) _) 0 (.nl 4) _ (Nat.zero_le _) rfl
  refine indM (fun i : Nat => p.length - i) fun i ih z B hi hz => ?_
  unfold c56_B1
  cases hx : p[i]? with
  | some c =>
   have hlt := (get_drop hx).1
   have hlt' : (i : Int) < p.length := by omega
   have hn := cells3_nth hx
   have wi : wr .i64 ((i : Int) + 1) = (i : Int) + 1 := wr_i64 (by omega) (by omega)
   obtain ⟨h1, h2, h3⟩ := good_bnd (hg c (List.mem_of_getElem? hx))
   have h4 : ¬ c.s = 0 := by omega
   have htk : p.take (i + 1) = p.take i ++ [c] := take_succ_get hx
   have gi := fun H => insert_r (v := z) (by rw [hz]; exact zP_sl _) (by rw [sortI_len, List.length_take]; omega) c H
   rw [← sortI_snoc, ← htk] at gi
   simp (maxSteps := 2000000) (disch := omega) [gd_in, gd_and, wr_i64, hr, hlt, hlt', hn, wi, cl (gi _), h4]
   exact ih (i + 1) (by omega) _ _ (by omega) rfl
  | none =>
   have : i = p.length := by have := List.getElem?_eq_none_iff.1 hx; omega
   subst this
   clear ih hx hi
   rw [List.take_length] at hz
   have hs : IsSl z (cells3 (sortI p)) := by rw [hz]; exact zP_sl _
   have hrs := hs.rules
   have hpw := sortI_pw ha
   have hsl := sortI_len p
   simp only [show (cells3 (sortI p)).length = p.length from by simp [cells3, hsl]] at hrs
   generalize hq : sortI p = q at *
   rw [← hz]
   simp (maxSteps := 2000000) (disch := omega) [gd_in, gd_and, wr_i64, hr]
   refine (?key3 : ∀ (j : Nat) (B : List (Nat × List V)), 1 ≤ j → Run G c56_B2 (S56_2 (.m z) (.m (.i .i64 (j : Int))) B []) _) 1 _ (Nat.le_refl _)
   refine indM (fun j : Nat => q.length - j) fun j ih B h1j => ?_
   unfold c56_B2
   cases hx : q[j]? with
   | some c =>
    have hlt := (get_drop hx).1
    have hlt2 : j < p.length := by omega
    have hlt' : (j : Int) < p.length := by omega
    have wj : wr .i64 ((j : Int) + 1) = (j : Int) + 1 := wr_i64 (by omega) (by omega)
    have wj1 : wr .i64 ((j : Int) - 1) = (j : Int) - 1 := wr_i64 (by omega) (by omega)
    obtain ⟨a, hax⟩ : ∃ a, q[j - 1]? = some a := ⟨q[j - 1]'(by omega), List.getElem?_eq_getElem _⟩
    have hn := cells3_nth hx
    have hna := cells3_nth hax
    have hltm : (j : Int) - 1 < p.length := by omega
    have h0m : (0 : Int) ≤ (j : Int) - 1 := by omega
    have htn : ((j : Int) - 1).toNat = j - 1 := by omega
    have hls : less a c = true := by
     obtain ⟨h1, rfl⟩ := List.getElem?_eq_some_iff.1 hax
     obtain ⟨h2, rfl⟩ := List.getElem?_eq_some_iff.1 hx
     exact List.pairwise_iff_getElem.1 hpw _ _ h1 h2 (by omega)
    have gb := fun H => before_r a c H
    rw [hls] at gb
    simp (maxSteps := 2000000) (disch := omega) [gd_in, gd_and, wr_i64, hrs, hlt2, hlt', hltm, h0m, htn, hn, hna, wj, wj1, cl (gb _)]
    exact ih (j + 1) (by omega) _ (by omega)
   | none =>
    have hj : q.length ≤ j := List.getElem?_eq_none_iff.1 hx
    have hlt' : ¬ (j : Int) < p.length := by omega
    have h5 : ¬ (5000 : Int) < p.length := by omega
    simp (maxSteps := 2000000) (disch := omega) [gd_in, gd_and, wr_i64, hrs, hlt', h5]
end Go.Mx.Tryz
