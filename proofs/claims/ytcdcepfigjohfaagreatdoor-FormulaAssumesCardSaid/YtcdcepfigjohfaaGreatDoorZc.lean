/- Assume, the program's text. -/
import Derived.Test.YtcdcepfigjohfaaGreatDoorZb
set_option linter.unusedSimpArgs false
set_option linter.unusedVariables false
set_option linter.unusedSectionVars false
set_option maxRecDepth 100000
namespace Go.Mx.Tryz

def TruQ (l : List Int) (v : V) : Prop := (opp l = true ∧ v = .tu [.m (.nl 1), .m (.b false)]) ∨ (opp l = false ∧ ∃ m, MpL m l ∧ v = .tu [.m (fzB m), .m (.b true)])
theorem opp_snoc {l : List Int} {x : Int} (h : opp l = false) (hx : x ≠ 0) (h2 : ¬ -x ∈ l ++ [x]) : opp (l ++ [x]) = false := by
 cases h3 : opp (l ++ [x]) with
 | false => rfl
 | true =>
  obtain ⟨a, h4, h5⟩ := opp_iff.1 h3
  have h6 : ¬ ∃ a, a ∈ l ∧ -a ∈ l := fun k => by rw [opp_iff.2 k] at h; cases h
  simp only [List.mem_append, List.mem_singleton] at h2 h4 h5
  rcases h4 with h4 | rfl
  ·rcases h5 with h5 | h5
   ·exact absurd ⟨a, h4, h5⟩ h6
   ·exact absurd (.inl (by rw [← h5, Int.neg_neg]; exact h4)) h2
  ·exact absurd h5 h2
theorem truths_s {z : I} {l : List Int} (hz : IsSl z (celI l)) (hl : l.length ≤ 9223372036854775807) (hs : Sm l) (h0 : ∀ x, x ∈ l → x ≠ 0) (HH : Hp) : ∃ v, Gives G 44 [.m z] HH v HH ∧ TruQ l v := by
 have key : ∃ v H', Gives G 44 [.m z] HH v H' ∧ (H' = HH ∧ TruQ l v) := by
  refine gives_of_ret ?_
  refine ret_pur rfl rfl rfl rfl rfl ?_
  generalize hQ : (fun (v : V) (H' : Hp) => H' = HH ∧ TruQ l v) = Q
  have hr := hz.rules
  simp only [celI_len] at hr
  simp (maxSteps := 2000000) (disch := omega) [gd_in, gd_and, wr_i64, hr]
  refine (?key : ∀ (i : Nat) (m : List (Int × Bool)) (B : List (Nat × List V)), i ≤ l.length → MpL m (l.take i) → opp (l.take i) = false → Run G c44_B0 (S44_0 (.mp 0) (.m z) (.m (.i .i64 l.length)) (.m (.i .i64 i)) B [mpR ekI evB m]) _) 0 [] _ (Nat.zero_le _) (fun x => by simp [mfind]) rfl
  refine indM (fun i : Nat => l.length - i) fun i ih m B hi hm ho => ?_
  unfold c44_B0
  cases hx : l[i]? with
  | none =>
   have : i = l.length := by have := List.getElem?_eq_none_iff.1 hx; omega
   subst this
   rw [List.take_length] at hm ho
   have k : Q (.tu [.m (fzB m), .m (.b true)]) HH := by rw [← hQ]; exact ⟨rfl, .inr ⟨ho, m, hm, rfl⟩⟩
   have v1 := view_fzB (H := [mpR ekI evB m]) (r := 0) rfl 18
   simp (maxSteps := 2000000) (disch := omega) [gd_in, gd_and, wr_i64, hr, v1]
   exact k
  | some x =>
   have hlt := (List.getElem?_eq_some_iff.1 hx).1
   have hlt' : (i : Int) < l.length := by omega
   have hn := celI_nth hx
   have hxm := List.mem_of_getElem? hx
   have wi : wr .i64 ((i : Int) + 1) = ((i + 1 : Nat) : Int) := wr_i64 (by omega) (by omega)
   have wx := wr_neg (hs x hxm)
   have hm2 := hm.snoc x
   have hg := hm2 (-x)
   by_cases h : -x ∈ l.take i ++ [x]
   ·rw [decide_eq_true h] at hg
    have k : Q (.tu [.m (.nl 1), .m (.b false)]) HH := by
     rw [← hQ]
     refine ⟨rfl, .inl ⟨opp_iff.2 ⟨x, hxm, ?_⟩, rfl⟩⟩
     rw [← take_succ_get hx] at h
     exact List.mem_of_mem_take h
    simp (maxSteps := 2000000) (disch := omega) [gd_in, gd_and, wr_i64, hr, hlt, hlt', hn, wx, hg]
    exact k
   ·rw [decide_eq_false h] at hg
    have k := ih (i + 1) (by omega) (mset m x true) B (by omega) (by rw [take_succ_get hx]; exact hm2) (by rw [take_succ_get hx]; exact opp_snoc ho (h0 x hxm) h)
    simp (maxSteps := 2000000) (disch := omega) [gd_in, gd_and, wr_i64, hr, hlt, hlt', hn, wx, hg, wi, -Int.natCast_add]
    exact k
 obtain ⟨v, H', h1, rfl, h2⟩ := key
 exact ⟨v, h1, h2⟩

theorem ass1_s {m : List (Int × Bool)} {l : List Int} (hm : MpL m l) (x : Int) (H : Hp) : Gives G 45 [.m (.i .i64 x), .m (.pt [fzB m])] H (.m (.b (decide (x ∈ l)))) H := by
 refine gives_pur rfl rfl rfl rfl rfl ?_
 have h := fun M => fzB_get M m x
 rw [hm x] at h
 simp (maxSteps := 2000000) (disch := omega) [gd_in, gd_and, wr_i64, h, -rx_lkp]
theorem index_a {m : List (Int × Bool)} {l : List Int} (hm : MpL m l) {z : I} {c : List Int} (hz : IsSl z (celI c)) (hc : c.length ≤ 9223372036854775807) (H : Hp) :
  Gives G 59 [.m z, .m (.fn 45 [.pt [fzB m]])] H (.m (.i .i64 (fi (fun x => decide (x ∈ l)) 0 c))) H := by
 refine gives_pur rfl rfl rfl rfl rfl ?_
 have hr := hz.rules
 simp only [celI_len] at hr
 generalize hp : (fun x => decide (x ∈ l)) = p
 simp (maxSteps := 2000000) (disch := omega) [gd_in, gd_and, wr_i64, hr]
 refine (?key : ∀ (i : Nat) (B : List (Nat × List V)), i ≤ c.length → fi p 0 c = fi p i (c.drop i) → Run G c59_B0 (S59_0 (.m z) (.m (.fn 45 [.pt [fzB m]])) (.m (.i .i64 c.length)) (.m (.i .i64 i)) B []) _) 0 [] (Nat.zero_le _) rfl
 refine indM (fun i : Nat => c.length - i) fun i ih B hi hq => ?_
 unfold c59_B0
 cases hx : c[i]? with
 | none =>
  have : i = c.length := by have := List.getElem?_eq_none_iff.1 hx; omega
  subst this
  rw [List.drop_length] at hq
  simp (maxSteps := 2000000) (disch := omega) [gd_in, gd_and, wr_i64, hr, hq, fi]
 | some x =>
  have hlt := (get_drop hx).1
  have hlt' : (i : Int) < c.length := by omega
  have hn := celI_nth hx
  have wi : wr .i64 ((i : Int) + 1) = ((i + 1 : Nat) : Int) := wr_i64 (by omega) (by omega)
  have g := fun H => ass1_s hm x H
  have he : decide (x ∈ l) = p x := by rw [← hp]
  rw [he] at g
  rw [(get_drop hx).2] at hq
  have hg : fi p i (x :: c.drop (i + 1)) = if p x = true then (i : Int) else fi p (i + 1) (c.drop (i + 1)) := rfl
  rw [hg] at hq
  cases h : p x with
  | true =>
   rw [h] at g hq
   rw [if_pos rfl] at hq
   simp (maxSteps := 2000000) (disch := omega) [gd_in, gd_and, wr_i64, hr, hlt, hlt', hn, cl (g _), hq]
  | false =>
   rw [h] at g hq
   rw [if_neg (by simp)] at hq
   have k := ih (i + 1) (by omega) B (by omega) hq
   simp (maxSteps := 2000000) (disch := omega) [gd_in, gd_and, wr_i64, hr, hlt, hlt', hn, cl (g _), wi, -Int.natCast_add]
   exact k
theorem contains_a {m : List (Int × Bool)} {l : List Int} (hm : MpL m l) {z : I} {c : List Int} (hz : IsSl z (celI c)) (hc : c.length ≤ 9223372036854775807) (H : Hp) :
  Gives G 28 [.m z, .m (.fn 45 [.pt [fzB m]])] H (.m (.b (sat l c))) H := by
 refine gives_pur rfl rfl rfl rfl rfl ?_
 have he : sat l c = decide (0 ≤ fi (fun x => decide (x ∈ l)) 0 c) := (fi_any _ _ _).symm
 simp (maxSteps := 2000000) (disch := omega) [gd_in, gd_and, wr_i64, cl (index_a hm hz hc _), he]
end Go.Mx.Tryz
