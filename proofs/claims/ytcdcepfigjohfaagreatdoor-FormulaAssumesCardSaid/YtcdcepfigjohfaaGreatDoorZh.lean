/- Units, the program's text: looking at a clause. -/
import Derived.Test.YtcdcepfigjohfaaGreatDoorZg
set_option linter.unusedSimpArgs false
set_option linter.unusedVariables false
set_option linter.unusedSectionVars false
set_option maxRecDepth 100000
namespace Go.Mx.Tryz

def LookQ (H : Hp) (rp rin ris : Nat) (oc oq : V) (a c : List Int) (v : V) (H' : Hp) : Prop :=
 (Okc a c ∧ v = .m (.b true) ∧ H' = H) ∨ (rst a c = [] ∧ v = .m (.b false) ∧ H' = H) ∨ (sat a c = false ∧ v = .m (.b true) ∧ ∃ x, (∀ y, y ∈ rst a c ↔ y = x) ∧ ∃ oq', QS H' rp rin ris oc oq' (a ++ [x]) ∧ Keep H H' rp ris oq ∧ New H oq oq')

set_option maxHeartbeats 4000000 in
theorem look_s {H : Hp} {rp rin ris : Nat} {oc oq : V} {a c : List Int} {z : I} (h : QS H rp rin ris oc oq a) (hz : IsSl z (celI c)) (hc : c.length ≤ 100000) (hs : Sm c) (hnd : c.Nodup) (hl : a.length ≤ 10000) :
  ∃ v H', Gives G 50 [.pt rp 1 0 0, .m z] H v H' ∧ LookQ H rp rin ris oc oq a c v H' := by
 refine gives_of_ret ?_
 refine ret_sh mono rfl rfl rfl rfl rfl ?_
 have hS := h
 obtain ⟨⟨b, hb, hrow⟩, ⟨m, hm, hml⟩, hq, hown, hlt, n1, n2, n3⟩ := h
 unfold pRow at hrow
 have hm' : nth H ris = some (mpR ekI evB m) := hm
 have hr := hz.rules
 simp only [celI_len] at hr
 simp (maxSteps := 2000000) (disch := omega) [gd_in, gd_and, wr_i64, hr]
 refine (?key : ∀ (i : Nat) (op : Int) (B : List (Nat × List V)), i ≤ c.length → sat a (c.take i) = false → (∀ x, rst a (c.take i) = [x] → op = x) → Run G c50_B0 (S50_0 (.pt rp 1 0 0) (.m (.i .i64 op)) (.m (.i .i64 ((rst a (c.take i)).length : Int))) (.m z) (.m (.i .i64 (c.length : Int))) (.m (.i .i64 (i : Int))) B H) _) 0 0 [] (Nat.zero_le _) rfl (fun x h => by cases h)
 refine indM (fun i : Nat => c.length - i) fun i ih op B hi hsat hop => ?_
 unfold c50_B0
 cases hx : c[i]? with
 | none =>
  have : i = c.length := by have := List.getElem?_eq_none_iff.1 hx; omega
  subst this
  rw [List.take_length] at hsat hop
  have hmem := fun y => mem_rst (a := a) (c := c) (x := y)
  have hnr : (rst a c).Nodup := hnd.filter _
  have hrl := rst_len a c
  cases hrs : rst a c with
  | nil =>
   have k : LookQ H rp rin ris oc oq a c (.m (.b false)) H := .inr (.inl ⟨hrs, rfl, rfl⟩)
   simp (maxSteps := 2000000) (disch := omega) [gd_in, gd_and, wr_i64, gcall_cx, hr, hrs]
   exact k
  | cons x t =>
   have hxr : x ∈ rst a c := by rw [hrs]; exact List.mem_cons_self ..
   cases t with
   | nil =>
    have hox := hop x hrs
    subst hox
    obtain ⟨v, H', g, hv⟩ := set_s hS (hs op ((hmem op).1 hxr).1) hl
    obtain ⟨h1, h2⟩ := (hmem op).1 hxr
    rcases hv with ⟨e, _⟩ | ⟨_, e, _⟩ | ⟨_, _, rfl, oq', k1, k2, k3⟩
    ·exact absurd e h2
    ·rw [sat_of h1 e] at hsat
     cases hsat
    ·have k : LookQ H rp rin ris oc oq a c (.m (.b true)) H' := .inr (.inr ⟨hsat, rfl, op, fun y => by rw [hrs]; simp, oq', k1, k2, k3⟩)
     simp (maxSteps := 2000000) (disch := omega) [gd_in, gd_and, wr_i64, gcall_cx, hr, hrs, cl g]
     exact k
   | cons y t =>
    have k : LookQ H rp rin ris oc oq a c (.m (.b true)) H := by
     refine .inl ⟨.inr ⟨x, y, fun e => ?_, hxr, by rw [hrs]; simp⟩, rfl, rfl⟩
     rw [hrs, e] at hnr
     simp at hnr
    have l1 : (1 : Int) < ((t.length + 1 + 1 : Nat) : Int) := by omega
    simp (maxSteps := 2000000) (disch := omega) [gd_in, gd_and, wr_i64, gcall_cx, hr, hrs, l1, -Int.natCast_add]
    exact k
 | some x =>
  have hlt := (List.getElem?_eq_some_iff.1 hx).1
  have hlt' : (i : Int) < c.length := by omega
  have hn := celI_nth hx
  have hxm := List.mem_of_getElem? hx
  have wi : wr .i64 ((i : Int) + 1) = ((i + 1 : Nat) : Int) := wr_i64 (by omega) (by omega)
  have wx := wr_neg (hs x hxm)
  have g1 := hml x
  have g2 := hml (-x)
  have hs2 := sat_take hx hsat
  have hrl := rst_len a (c.take i)
  rw [List.length_take] at hrl
  by_cases h1 : x ∈ a
  ·rw [decide_eq_true h1] at g1
   have k : LookQ H rp rin ris oc oq a c (.m (.b true)) H := .inl ⟨.inl (sat_of hxm h1), rfl, rfl⟩
   simp (maxSteps := 2000000) (disch := omega) [gd_in, gd_and, wr_i64, hr, hlt, hlt', hn, hrow, hm', hb, rd_p2, g1, -Int.natCast_add]
   exact k
  ·rw [decide_eq_false h1] at g1 hs2
   have k := fun op B => ih (i + 1) (by omega) op B (by omega) hs2
   rw [take_succ_get hx, rst_snoc] at k
   by_cases h2 : -x ∈ a
   ·rw [decide_eq_true h2] at g2
    rw [if_pos h2] at k
    simp (maxSteps := 2000000) (disch := omega) [gd_in, gd_and, wr_i64, hr, hlt, hlt', hn, hrow, hm', hb, rd_p2, g1, g2, wx, wi, -Int.natCast_add]
    exact k _ _ hop
   ·rw [decide_eq_false h2] at g2
    rw [if_neg h2] at k
    have wn : wr .i64 (((rst a (c.take i)).length : Int) + 1) = ((rst a (c.take i) ++ [x]).length : Int) := by
     rw [wr_i64 (by omega) (by omega)]
     simp
    have k := fun B => k x B fun y hy => by
     have hlen := congrArg List.length hy
     simp only [List.length_append, List.length_cons, List.length_nil] at hlen
     have h0 : rst a (c.take i) = [] := List.length_eq_zero_iff.1 (by omega)
     rw [h0] at hy
     simpa using hy
    simp (maxSteps := 2000000) (disch := omega) [gd_in, gd_and, wr_i64, hr, hlt, hlt', hn, hrow, hm', hb, rd_p2, g1, g2, wx, wi, wn, -Int.natCast_add, -List.length_append]
    exact k _
end Go.Mx.Tryz
