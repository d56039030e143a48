/- The law FormulaAssumes. -/
import Derived.Test.YtcdcepfigjohfaaGreatDoorZd
import Derived.Test.YtcdcepfigjohfaaGreatDoorZj
import Derived.Test.YtcdcepfigjohfaaGreatDoorFs
import Derived.Test.YtcdcepfigjohfaaGreatDoorAwake
set_option linter.unusedSimpArgs false
set_option linter.unusedVariables false
set_option linter.unusedSectionVars false
set_option maxRecDepth 100000
namespace Go.Mx.Tryz

theorem aggIs : aggT Go.Proofs.Tryz.prog 35 = some false := by unfold aggT; rw [Go.Proofs.Tryz.underlying35]; rfl
theorem arg_ints {B n : Nat} {ts : List TypeId} {us : List V} (h : ArgsOk Go.Proofs.Tryz.prog B (n + 2) (35 :: ts) us) :
  ∃ (y : I) (c : List Int) (r : List V), us = .m y :: r ∧ IsSl y (celI c) ∧ c.length ≤ B ∧ ArgsOk Go.Proofs.Tryz.prog B (n + 2) ts r := by
 obtain ⟨l, r, rfl, hl, h'⟩ := argsOk_cons h
 obtain ⟨z, rfl, hz, hle⟩ := fit_ints hl
 rw [argV_one aggIs]
 exact ⟨z, dI z, r, rfl, hz, hle, h'⟩
theorem same_tru {z y : I} {zs ys : List I} {n : Int} (hz : IsSl z (ones zs)) (hy : IsSl y (ones ys)) (hc : Cls zs) (hd : Cls ys) (hl : zs.length ≤ 9223372036854775807) (h : zs.map dI = ys.map dI) (H : Hp) : Gives G 17 [.m (.ag [.i .i64 n, z]), .m (.ag [.i .i64 n, y])] H (.m (.b true)) H := by
 have := same_r hz hy hc hd hl n n H
 rwa [decide_eq_true ⟨rfl, h⟩] at this
theorem asm_same {n : Int} {l : List Int} {zs : List I} {v w : V} (h60 : zs.length ≤ 60) (h : AsmQ n l zs v) (k : AsmQ n l zs w) : ∃ (m e : Int) (z y : I), v = .tu [.m (.ag [.i .i64 m, z]), .m (.i .i64 e)] ∧ w = .tu [.m (.ag [.i .i64 m, y]), .m (.i .i64 e)] ∧ cellsV (.m z) = some [.m z] ∧ cellsV (.m y) = some [.m y] ∧ oneV (.m z) = true ∧ oneV (.m y) = true ∧ ∀ H, Gives G 17 [.m (.ag [.i .i64 m, z]), .m (.ag [.i .i64 m, y])] H (.m (.b true)) H := by
 unfold AsmQ at h k
 by_cases hb : (frm n zs && (lits n l && !opp l)) = true
 ·rw [if_pos hb] at h k
  obtain ⟨z, zs1, rfl, h1, h2, h3⟩ := h
  obtain ⟨y, ys1, rfl, k1, k2, k3⟩ := k
  refine ⟨n, 0, z, y, rfl, rfl, slCells h1, slCells k1, slOn h1, slOn k1, fun H => same_tru h1 k1 h2 k2 ?_ (h3.trans k3.symm) H⟩
  have e1 := congrArg List.length h3
  have e2 := asm_len l (zs.map dI)
  rw [List.length_map] at e1 e2
  omega
 ·rw [if_neg hb] at h k
  exact ⟨0, 2, .nl 4, .nl 4, h, k, rfl, rfl, rfl, rfl, fun H => same_tru (zs := []) (ys := []) isSl_nil isSl_nil (fun z hz => by simp at hz) (fun z hz => by simp at hz) (by simp) rfl H⟩
theorem uni_same {n : Int} {l : List Int} {zs : List I} {v w : V} {H0 : Hp} (hlen : ∀ q, UnQ (zs.map dI) l q → q.length ≤ 9223372036854775807) (h : UniS n zs l v H0) (k : UniR n zs l w) : ∃ (o : V) (y : I) (b : Bool) (e : Int), v = .tu [o, .m (.b b), .m (.i .i64 e)] ∧ w = .tu [.m y, .m (.b b), .m (.i .i64 e)] ∧ noFaV o = true ∧ Gives G 22 [o, .m y] H0 (.m (.b true)) H0 := by
 unfold UniS at h
 unfold UniR at k
 have g0 : Gives G 22 [.m (.nl 4), .m (.nl 4)] H0 (.m (.b true)) H0 := by
  have := equal_r (z := .nl 4) (y := .nl 4) (c := []) (d := []) isSl_nil isSl_nil (by simp) H0
  simpa using this
 by_cases hb : (frm n zs && lits n l) = true
 ·rw [if_pos hb] at h k
  rcases h with ⟨h1, rfl⟩ | ⟨q, o, h1, rfl, h2⟩
  ·rcases k with ⟨_, rfl⟩ | ⟨r, k1, _⟩
   ·exact ⟨_, _, _, _, rfl, rfl, rfl, g0⟩
   ·exact absurd h1 k1.1
  ·rcases k with ⟨k1, _⟩ | ⟨r, k1, rfl⟩
   ·exact absurd k1 h1.1
   ·have e := h1.uniq k1
    subst e
    refine ⟨_, _, _, _, rfl, rfl, h2.nf.1, ?_⟩
    have := h2.call (F := 22) (ys := [zI q]) (v := .m (.b true)) (H0 := []) rfl rfl (fun z hz => by
     rw [on1_iI] at hz
     have := equal_r hz (zI_sl q) (hlen q h1) []
     rwa [decide_eq_true rfl] at this) rfl
    exact this
 ·rw [if_neg hb] at h k
  exact ⟨_, _, _, _, h, k, rfl, g0⟩
theorem nod_le : ∀ {q m : List Int}, q.Nodup → (∀ x, x ∈ q → x ∈ m) → q.length ≤ m.length
 | [], _, _, _ => Nat.zero_le _
 | x :: q, m, hn, hs => by
  have hx := hs x (List.mem_cons_self ..)
  obtain ⟨h1, h2⟩ := List.nodup_cons.1 hn
  have ih := nod_le h2 (m := m.erase x) fun y hy => (List.mem_erase_of_ne (show y ≠ x from fun e => h1 (by rw [← e]; exact hy))).2 (hs y (List.mem_cons_of_mem _ hy))
  rw [List.length_erase_of_mem hx] at ih
  have := List.length_pos_of_mem hx
  simp only [List.length_cons]
  omega
theorem UnQ.len {D : List (List Int)} {l q : List Int} (h : UnQ D l q) : q.length ≤ D.flatten.length := by
 have hn : q.Nodup := h.2.1.imp fun {a b} e e2 => by
  subst e2
  rw [sto_lit.irr] at e
  cases e
 have hs : ∀ x, x ∈ q → x ∈ D.flatten := fun x hx => by
  obtain ⟨h1, h2⟩ := (h.2.2 x).1 hx
  rcases h1.from with h3 | ⟨c, h3, h4⟩
  ·exact absurd h3 h2
  ·exact List.mem_flatten.2 ⟨c, h3, h4⟩
 exact nod_le hn hs

set_option maxHeartbeats 4000000 in
theorem law_assumes (hA : Gives G 10 [] [] (.m (.b true)) []) {z y : I} {zs : List I} {l : List Int} (hz : IsSl z (ones zs)) (hc : Cls zs) (hlz : zs.length ≤ 9223372036854775807) (hy : IsSl y (celI l)) (hll : l.length ≤ 9223372036854775807) (n : Int) :
  Gives G 5 [.m (.ag [.i .i64 n, z]), .m y] [] (.m (.b true)) [] := by
 have gA : ∀ H, Gives G 10 [] H (.m (.b true)) H := fun H => gives_immZ (is := []) rfl rfl hA H
 have hry := hy.rules
 simp only [celI_len] at hry
 refine gives_pur rfl rfl rfl rfl rfl ?_
 have g0 := fun H => few_s hz hc hlz n H
 by_cases hf : (decide (zs.length ≤ 60) && zs.all fun z => decide ((dI z).length ≤ 30)) = true
 ·rw [hf] at g0
  simp only [Bool.and_eq_true, decide_eq_true_eq, List.all_eq_true] at hf
  by_cases hl : l.length ≤ 30
  ·have hl' : ¬ (30 : Int) < (l.length : Int) := by omega
   obtain ⟨v1, a1, b1⟩ := assume_s hz hc hy hl hf.1 hf.2 (n := n) []
   obtain ⟨v2, a2, b2⟩ := assume_r hz hc hy hl hf.1 hf.2 (n := n) []
   have a1 := fun H => gives_imm2 rfl rfl a1 H
   have a2 := fun H => gives_imm2 rfl rfl a2 H
   obtain ⟨m, e, z1, z2, rfl, rfl, s1, s2, s3, s4, s5⟩ := asm_same hf.1 b1 b2
   obtain ⟨v3, H3, a3, b3⟩ := units_s hz hc hy hl hf.1 hf.2 (n := n)
   obtain ⟨v4, a4, b4⟩ := units_r hz hc hy hl hf.1 hf.2 (n := n) []
   have a4 := fun H => gives_imm2 rfl rfl a4 H
   have hfl := flat_len (C := zs.map dI) fun c hc' => by
    obtain ⟨u, hu, rfl⟩ := List.mem_map.1 hc'
    exact hf.2 u hu
   rw [List.length_map] at hfl
   obtain ⟨o, y2, b, e2, rfl, rfl, t1, t2⟩ := uni_same (fun q hq => by have := hq.len; omega) b3 b4
   simp (maxSteps := 2000000) (disch := omega) [gd_in, gd_and, wr_i64, gcall_cx, slCells hz, slOn hz, hry, hl', cl (g0 _), cl (a1 _), cl (a2 _), cl a3, cl (a4 _), s1, s2, s3, s4, cl (s5 _), cl t2, setC_v t1, cl (gA _)]
  ·have hl' : (30 : Int) < (l.length : Int) := by omega
   simp (maxSteps := 2000000) (disch := omega) [gd_in, gd_and, wr_i64, gcall_cx, slCells hz, slOn hz, hry, hl', cl (g0 _), cl (gA _)]
 ·rw [Bool.not_eq_true] at hf
  rw [hf] at g0
  simp (maxSteps := 2000000) (disch := omega) [gd_in, gd_and, wr_i64, gcall_cx, slCells hz, slOn hz, cl (g0 _), cl (gA _)]
theorem formula_assumes (us : List V) (h : ArgsOk Go.Proofs.Tryz.prog maxLen 8 Go.Proofs.Tryz.f5.params.toList us) : Gives G 5 us [] (.m (.b true)) [] := by
 have e : Go.Proofs.Tryz.f5.params.toList = [24, 35] := by rw [Go.Proofs.Tryz.params5]
 have h := e ▸ h
 have hm : maxLen ≤ 9223372036854775807 := by decide
 obtain ⟨n, z, zs, _, rfl, hz, hc, hl, h1⟩ := arg_frm hm h
 obtain ⟨y, l, _, rfl, hy, hl', h2⟩ := arg_ints h1
 have := argsOk_nil h2
 subst this
 exact law_assumes gives_awake hz hc (by omega) hy (by omega) n
end Go.Mx.Tryz
