/- Arguments that are rules; few. -/
import Derived.Test.YtjkepihkilnjiaaGreatDoorTc
import Derived.Test.YtjkepihkilnjiaaGreatDoorArg
set_option linter.unusedSimpArgs false
set_option linter.unusedVariables false
set_option linter.unusedSectionVars false
set_option maxRecDepth 100000
namespace Go.Mx.Tryz
open Go.Lib Go.Proofs

def fewB (t : TreeC) : Bool := decide (t.hood.length ≤ 40) && (decide (t.nodes.length ≤ 400) && t.nodes.all fun n => decide (n.2.length ≤ 20))
set_option maxHeartbeats 1000000 in
theorem fewT_l {t : TreeC} {h n : I} {es : List (List I)} (hT : TreeV t h n es) (H : Hp) : Gives G 9 [.m (.ag [.i .i64 t.states, h, n])] H (.m (.b (fewB t))) H := by
 have hrn := hT.nd.rules
 have hln := treeV_len hT
 have hrh := hT.hd.rules
 simp only [cells2_len] at hrh
 have hl1 := hT.hl
 have hl2 := hT.nl
 have eF : fewB t = (decide (t.hood.length ≤ 40) && (decide (t.nodes.length ≤ 400) && t.nodes.all fun n => decide (n.2.length ≤ 20))) := rfl
 refine gives_pur rfl rfl rfl rfl rfl ?_
 by_cases h1 : (40 : Int) < t.hood.length
 ·have e : fewB t = false := by rw [eF, decide_eq_false (by omega)]; rfl
  simp (maxSteps := 2000000) (disch := omega) [gd_in, gd_and, wr_i64, hrn, hrh, h1, e]
 by_cases h2 : (400 : Int) < es.length
 ·have e : fewB t = false := by rw [eF, decide_eq_false (by omega : ¬ t.nodes.length ≤ 400)]; simp
  simp (maxSteps := 2000000) (disch := omega) [gd_in, gd_and, wr_i64, hrn, hrh, h1, h2, e]
 have e : fewB t = t.nodes.all fun n => decide (n.2.length ≤ 20) := by rw [eF, decide_eq_true (by omega), decide_eq_true (by omega : t.nodes.length ≤ 400)]; simp
 rw [e]
 simp (maxSteps := 2000000) (disch := omega) [gd_in, gd_and, wr_i64, hrn, hrh, h1, h2]
 refine (?key : ∀ (i : Nat) (B : List (Nat × List V)), i ≤ es.length → getB B 1 = some [.m (.i .i64 t.states), .m h, .m n] → (t.nodes.all fun n => decide (n.2.length ≤ 20)) = ((t.nodes.drop i).all fun n => decide (n.2.length ≤ 20)) → Run G c9_B0 (S9_0 (.fa 1 0) (.m (.i .i64 es.length)) (.m (.i .i64 (i : Int))) B []) _) 0 _ (Nat.zero_le _) rfl rfl
 refine indM (fun i : Nat => es.length - i) fun i ih B hi hB hI => ?_
 unfold c9_B0
 cases hx : t.nodes[i]? with
 | none =>
  have : i = es.length := by have := List.getElem?_eq_none_iff.1 hx; omega
  subst this
  rw [← hln, List.drop_length] at hI
  have hI : (t.nodes.all fun n => decide (n.2.length ≤ 20)) = true := hI
  simp (maxSteps := 2000000) (disch := omega) [gd_in, gd_and, wr_i64, hI]
 | some nd =>
  have hlt := (get_drop hx).1
  have hlt1 : i < es.length := by omega
  have hlt2 : (i : Int) < es.length := by omega
  obtain ⟨z, hz, hzs, hzl, _⟩ := treeV_at hT hx
  have hrz := hzs.rules
  simp only [celI_len] at hrz
  have wi : wr .i64 ((i : Int) + 1) = ((i + 1 : Nat) : Int) := wr_i64 (by omega) (by omega)
  rw [(get_drop hx).2, List.all_cons] at hI
  by_cases h20 : (20 : Int) < nd.2.length
  ·have e : (t.nodes.all fun n => decide (n.2.length ≤ 20)) = false := by rw [hI, decide_eq_false (by omega : ¬ nd.2.length ≤ 20)]; rfl
   simp (maxSteps := 2000000) (disch := omega) [gd_in, gd_and, wr_i64, hrn, hlt1, hlt2, hz, hrz, hB, h20, e]
  ·rw [decide_eq_true (by omega : nd.2.length ≤ 20), Bool.true_and] at hI
   have k := ih (i + 1) (by omega) B (by omega) hB hI
   simp (maxSteps := 2000000) (disch := omega) [gd_in, gd_and, wr_i64, hrn, hlt1, hlt2, hz, hrz, hB, h20, wi, -Int.natCast_add]
   exact k
theorem fit_point {B n : Nat} {l : List I} (h : Fits Go.Proofs.Tryz.prog B (n + 2) 40 l) : ∃ x : Int × Int, l = [.i .i64 x.1, .i .i64 x.2] := by
 unfold Fits at h
 rw [Go.Proofs.Tryz.underlying40] at h
 simp only [FitsF] at h
 obtain ⟨x1, y1, rfl, k1, x2, y2, rfl, k2, rfl⟩ := h
 obtain ⟨u, rfl, _⟩ := fit_int k1
 obtain ⟨v, rfl, _⟩ := fit_int k2
 exact ⟨(u, v), rfl⟩
theorem fit_points {es : List (List I)} (h : ∀ x, x ∈ es → ∃ d : Int × Int, x = [.i .i64 d.1, .i .i64 d.2]) : ∃ p, es = cells2 p := by
 induction es with
 | nil => exact ⟨[], rfl⟩
 | cons x r ih =>
  obtain ⟨d, rfl⟩ := h x (by simp)
  obtain ⟨p, rfl⟩ := ih fun x hx => h x (by simp [hx])
  exact ⟨d :: p, rfl⟩
theorem cel_ofN : ∀ {es : List (List I)}, (∀ x, x ∈ es → ∃ y : Int, x = [.i .i64 y]) → es = celI (es.map dEn)
 | [], _ => rfl
 | e :: r, h => by
  obtain ⟨y, rfl⟩ := h e (by simp)
  have := cel_ofN (es := r) fun x hx => h x (by simp [hx])
  show _ :: r = [I.i .i64 (dEn [I.i .i64 y])] :: celI (r.map dEn)
  rw [← this]
  rfl
theorem fit_next {B n : Nat} {l : List I} (h : Fits Go.Proofs.Tryz.prog B (n + 2) 50 l) : ∃ z : I, l = [z] ∧ IsSl z (celI (dIn z)) ∧ (dIn z).length ≤ B ∧ ∀ k, k ∈ dIn z → -9223372036854775808 ≤ k ∧ k ≤ 9223372036854775807 := by
 unfold Fits at h
 rw [Go.Proofs.Tryz.underlying50] at h
 simp only at h
 rcases h with rfl | ⟨es, rfl, hle, hes⟩
 ·exact ⟨_, rfl, isSl_nil, by simp [dIn], by simp [dIn]⟩
 ·refine ⟨_, rfl, ?_, by simpa [dIn] using hle, fun k hk => ?_⟩
  ·show IsSl (.sl es) (celI (es.map dEn))
   rw [← cel_ofN fun x hx => let ⟨y, h1, _⟩ := fit_int (hes x hx); ⟨y, h1⟩]
   exact isSl_sl _
  ·have hk : k ∈ es.map dEn := hk
   obtain ⟨e, he, rfl⟩ := List.mem_map.1 hk
   obtain ⟨y, rfl, hy⟩ := fit_int (hes e he)
   exact hy
theorem fit_node {B n : Nat} {l : List I} (h : Fits Go.Proofs.Tryz.prog B (n + 3) 60 l) : ∃ (x : Int) (z : I), l = [.i .i64 x, z] ∧ IsSl z (celI (dIn z)) ∧ (dIn z).length ≤ B ∧ ∀ k, k ∈ dIn z → -9223372036854775808 ≤ k ∧ k ≤ 9223372036854775807 := by
 unfold Fits at h
 rw [Go.Proofs.Tryz.underlying60] at h
 simp only [FitsF] at h
 obtain ⟨x1, y1, rfl, k1, x2, y2, rfl, k2, rfl⟩ := h
 obtain ⟨u, rfl, _⟩ := fit_int k1
 obtain ⟨z, rfl, h1, h2, h3⟩ := fit_next k2
 exact ⟨u, z, rfl, h1, h2, h3⟩
theorem aggTree : aggT Go.Proofs.Tryz.prog 25 = some true := by unfold aggT; rw [Go.Proofs.Tryz.underlying25]; rfl
theorem arg_tree {B n : Nat} {ts : List TypeId} {us : List V} (hB : B ≤ 9223372036854775807) (h : ArgsOk Go.Proofs.Tryz.prog B (n + 5) (25 :: ts) us) :
  ∃ (t : TreeC) (hh nn : I) (es : List (List I)) (r : List V), us = .m (.ag [.i .i64 t.states, hh, nn]) :: r ∧ TreeV t hh nn es ∧ ArgsOk Go.Proofs.Tryz.prog B (n + 5) ts r := by
 obtain ⟨l, r, rfl, hl, h'⟩ := argsOk_cons h
 unfold Fits at hl
 rw [Go.Proofs.Tryz.underlying25] at hl
 simp only [FitsF] at hl
 obtain ⟨x1, y1, rfl, k1, x2, y2, rfl, k2, x3, y3, rfl, k3, rfl⟩ := hl
 obtain ⟨u, rfl, _⟩ := fit_int k1
 unfold Fits at k2 k3
 rw [Go.Proofs.Tryz.underlying22] at k2
 rw [Go.Proofs.Tryz.underlying23] at k3
 simp only at k2 k3
 have hh : ∃ (v : I) (p : List (Int × Int)), x2 = [v] ∧ IsSl v (cells2 p) ∧ p.length ≤ B := by
  rcases k2 with rfl | ⟨es, rfl, hle, hes⟩
  ·exact ⟨_, [], rfl, isSl_nil, by simp⟩
  ·obtain ⟨p, rfl⟩ := fit_points fun x hx => fit_point (hes x hx)
   exact ⟨_, p, rfl, isSl_sl _, by simpa using hle⟩
 have hn : ∃ (v : I) (es : List (List I)), x3 = [v] ∧ IsSl v es ∧ NodesV es ∧ es.length ≤ B := by
  rcases k3 with rfl | ⟨es, rfl, hle, hes⟩
  ·exact ⟨_, [], rfl, isSl_nil, fun e he => (by cases he), by simp⟩
  ·refine ⟨_, es, rfl, isSl_sl _, fun e he => ?_, hle⟩
   obtain ⟨x, z, h1, h2, h3, h4⟩ := fit_node (hes e he)
   exact ⟨x, z, h1, h2, by omega, h4⟩
 obtain ⟨hv, p, rfl, h1, h2⟩ := hh
 obtain ⟨nv, es, rfl, h3, h4, h5⟩ := hn
 rw [argV_ag aggTree]
 exact ⟨⟨u, p, es.map dNd⟩, hv, nv, es, r, rfl, ⟨h1, h3, h4, rfl, by show p.length ≤ _; omega, by omega⟩, h'⟩
end Go.Mx.Tryz
