/- strings.Trim at the machine; lines. -/
import Derived.Test.YtfllcbohggcmfaaGreatDoorKa
import Derived.Test.YtfllcbohggcmfaaGreatDoorStr
set_option linter.unusedSimpArgs false
set_option linter.unusedVariables false
set_option linter.unusedSectionVars false
set_option maxRecDepth 100000
namespace Go.Mx.Tryz
open Go.Proofs

def zR : List (List V) := List.replicate 256 [.m (.b false)]
@[reducible] def zRow : Row := .cs 97 1 zR 0 false
theorem als_set (B : List (Nat × List V)) : loudX (fun _ _ _ => none) ⟨B, []⟩ (.als 97 1 256 [.m (.b false), .m (.b false), .m (.b false), .m (.b false), .m (.b false), .m (.b false), .m (.b false), .m (.b false), .m (.b false), .m (.b false), .m (.b false), .m (.b false), .m (.b false), .m (.b false), .m (.b false), .m (.b false), .m (.b false), .m (.b false), .m (.b false), .m (.b false), .m (.b false), .m (.b false), .m (.b false), .m (.b false), .m (.b false), .m (.b false), .m (.b false), .m (.b false), .m (.b false), .m (.b false), .m (.b false), .m (.b false), .m (.b false), .m (.b false), .m (.b false), .m (.b false), .m (.b false), .m (.b false), .m (.b false), .m (.b false), .m (.b false), .m (.b false), .m (.b false), .m (.b false), .m (.b false), .m (.b false), .m (.b false), .m (.b false), .m (.b false), .m (.b false), .m (.b false), .m (.b false), .m (.b false), .m (.b false), .m (.b false), .m (.b false), .m (.b false), .m (.b false), .m (.b false), .m (.b false), .m (.b false), .m (.b false), .m (.b false), .m (.b false), .m (.b false), .m (.b false), .m (.b false), .m (.b false), .m (.b false), .m (.b false), .m (.b false), .m (.b false), .m (.b false), .m (.b false), .m (.b false), .m (.b false), .m (.b false), .m (.b false), .m (.b false), .m (.b false), .m (.b false), .m (.b false), .m (.b false), .m (.b false), .m (.b false), .m (.b false), .m (.b false), .m (.b false), .m (.b false), .m (.b false), .m (.b false), .m (.b false), .m (.b false), .m (.b false), .m (.b false), .m (.b false), .m (.b false), .m (.b false), .m (.b false), .m (.b false), .m (.b false), .m (.b false), .m (.b false), .m (.b false), .m (.b false), .m (.b false), .m (.b false), .m (.b false), .m (.b false), .m (.b false), .m (.b false), .m (.b false), .m (.b false), .m (.b false), .m (.b false), .m (.b false), .m (.b false), .m (.b false), .m (.b false), .m (.b false), .m (.b false), .m (.b false), .m (.b false), .m (.b false), .m (.b false), .m (.b false), .m (.b false), .m (.b false), .m (.b false), .m (.b false), .m (.b false), .m (.b false), .m (.b false), .m (.b false), .m (.b false), .m (.b false), .m (.b false), .m (.b false), .m (.b false), .m (.b false), .m (.b false), .m (.b false), .m (.b false), .m (.b false), .m (.b false), .m (.b false), .m (.b false), .m (.b false), .m (.b false), .m (.b false), .m (.b false), .m (.b false), .m (.b false), .m (.b false), .m (.b false), .m (.b false), .m (.b false), .m (.b false), .m (.b false), .m (.b false), .m (.b false), .m (.b false), .m (.b false), .m (.b false), .m (.b false), .m (.b false), .m (.b false), .m (.b false), .m (.b false), .m (.b false), .m (.b false), .m (.b false), .m (.b false), .m (.b false), .m (.b false), .m (.b false), .m (.b false), .m (.b false), .m (.b false), .m (.b false), .m (.b false), .m (.b false), .m (.b false), .m (.b false), .m (.b false), .m (.b false), .m (.b false), .m (.b false), .m (.b false), .m (.b false), .m (.b false), .m (.b false), .m (.b false), .m (.b false), .m (.b false), .m (.b false), .m (.b false), .m (.b false), .m (.b false), .m (.b false), .m (.b false), .m (.b false), .m (.b false), .m (.b false), .m (.b false), .m (.b false), .m (.b false), .m (.b false), .m (.b false), .m (.b false), .m (.b false), .m (.b false), .m (.b false), .m (.b false), .m (.b false), .m (.b false), .m (.b false), .m (.b false), .m (.b false), .m (.b false), .m (.b false), .m (.b false), .m (.b false), .m (.b false), .m (.b false), .m (.b false), .m (.b false), .m (.b false), .m (.b false), .m (.b false), .m (.b false), .m (.b false), .m (.b false), .m (.b false), .m (.b false), .m (.b false), .m (.b false), .m (.b false), .m (.b false), .m (.b false), .m (.b false), .m (.b false), .m (.b false), .m (.b false), .m (.b false), .m (.b false), .m (.b false), .m (.b false), .m (.b false), .m (.b false), .m (.b false), .m (.b false), .m (.b false), .m (.b false), .m (.b false), .m (.b false)]) [] = some (.pt 0 256 0 0, ⟨B, [zRow]⟩) := by kernel_rfl
structure CutOk (cut : List Nat) : Prop where
 set : Gives G 67 [.m (.s cut)] [] (.tu [.m (.ag (setI cut)), .m (.b true)]) []
 st : ∀ B, loudX (fun _ _ _ => none) ⟨B, [zRow]⟩ (.st 256) [.pt 0 256 0 0, .m (.ag (setI cut))] = some (.un, ⟨B, [setRow cut]⟩)
 ne : cut ≠ []
 n1 : ¬ (cut.length : Int) = 1
theorem trim_c {cut : List Nat} (hC : CutOk cut) (s : List Nat) (hl : s.length ≤ 9223372036854775807) (hb : ∀ c, c ∈ s → c < 256) (H : Hp) : ∃ q, Gives G 53 [.m (.s s), .m (.s cut)] H (.m (.s q)) H ∧ (q = [] ↔ inS cut s = true) := by
 by_cases h0 : s = []
 ·subst h0
  refine ⟨[], gives_pur rfl rfl rfl rfl rfl ?_, by simp [inS_nil]⟩
  simp
 ·obtain ⟨q1, g1, e1, l1, m1⟩ := trimR_w cut [] s hl hb
  obtain ⟨q2, g2, e2⟩ := trimL_w cut [] q1 (by omega) fun c hc => hb c (m1 c hc)
  refine ⟨q2, gives_pur rfl rfl rfl rfl rfl ?_, by rw [e1]; exact e2⟩
  simp [h0, hC.ne, hC.n1, cl hC.set, -loud_als, -loud_st, als_set, hC.st, cl g1, cl g2]

def linesA : List Nat → List Nat → List (List Nat)
 | cur, [] => fl0 cur
 | cur, x :: r => if x = 10 then cur :: linesA [] r else linesA (cur ++ [x]) r
where fl0 (c : List Nat) : List (List Nat) := if c = [] then [] else [c]
theorem linesA_hd : ∀ (s cur : List Nat), s ≠ [] → linesA cur s = (cur ++ hdB 10 s) :: linesA [] ((tlB 10 s).getD [])
 | [], _, h => absurd rfl h
 | x :: r, cur, _ => by
  have e1 : tlB 10 (x :: r) = if x = 10 then some r else tlB 10 r := rfl
  have e2 : hdB 10 (x :: r) = if x = 10 then [] else x :: hdB 10 r := rfl
  have e3 : linesA cur (x :: r) = if x = 10 then cur :: linesA [] r else linesA (cur ++ [x]) r := rfl
  rw [e1, e2, e3]
  by_cases hx : x = 10
  ·rw [if_pos hx, if_pos hx, if_pos hx]; simp
  ·rw [if_neg hx, if_neg hx, if_neg hx]
   by_cases hr : r = []
   ·subst hr
    show linesA.fl0 (cur ++ [x]) = (cur ++ x :: hdB 10 []) :: linesA [] ((tlB 10 []).getD [])
    unfold linesA.fl0
    rw [if_neg (by simp)]
    rfl
   ·rw [linesA_hd r _ hr, List.append_assoc]; rfl
theorem lines_hd {s : List Nat} (h : s ≠ []) : linesA [] s = hdB 10 s :: linesA [] ((tlB 10 s).getD []) := by rw [linesA_hd s [] h]; rfl
theorem linesA_len : ∀ (s cur : List Nat), (linesA cur s).length ≤ s.length + 1
 | [], cur => by
  show (linesA.fl0 cur).length ≤ 1
  unfold linesA.fl0
  split <;> simp
 | x :: r, cur => by
  have e3 : linesA cur (x :: r) = if x = 10 then cur :: linesA [] r else linesA (cur ++ [x]) r := rfl
  have h1 := linesA_len r []
  have h2 := linesA_len r (cur ++ [x])
  rw [e3]
  split
  ·simp only [List.length_cons]; omega
  ·simp only [List.length_cons]; omega
theorem linesA_mem : ∀ (s cur : List Nat) (u : List Nat), u ∈ linesA cur s → u.length ≤ cur.length + s.length ∧ ∀ c, c ∈ u → c ∈ cur ∨ c ∈ s
 | [], cur, u, h => by
  have h : u ∈ linesA.fl0 cur := h
  unfold linesA.fl0 at h
  split at h
  ·cases h
  ·simp at h; subst h; exact ⟨by simp, fun c hc => .inl hc⟩
 | x :: r, cur, u, h => by
  have e3 : linesA cur (x :: r) = if x = 10 then cur :: linesA [] r else linesA (cur ++ [x]) r := rfl
  rw [e3] at h
  split at h
  ·rcases List.mem_cons.1 h with h | h
   ·subst h; exact ⟨by simp, fun c hc => .inl hc⟩
   ·obtain ⟨h1, h2⟩ := linesA_mem r [] u h
    refine ⟨by simp only [List.length_cons, List.length_nil] at *; omega, fun c hc => .inr ?_⟩
    rcases h2 c hc with h | h
    ·cases h
    ·simp [h]
  ·obtain ⟨h1, h2⟩ := linesA_mem r _ u h
   refine ⟨by simp only [List.length_append, List.length_cons, List.length_nil] at *; omega, fun c hc => ?_⟩
   rcases h2 c hc with h | h
   ·rcases List.mem_append.1 h with h | h
    ·exact .inl h
    ·simp at h; exact .inr (by simp [h])
   ·exact .inr (by simp [h])

theorem lines_s (s : List Nat) (H : Hp) : Gives G 19 [.m (.s s)] H (.fn 39 [.pt H.length 1 0 0]) (H ++ [strR s 0]) := by
 refine .of_ret ?_
 refine ret_sh mono rfl rfl rfl rfl rfl ?_
 simp
theorem lines_w (r rs : Nat) (J : Nat → List Nat → Hp → Prop) (Q : V → Hp → Prop)
  (h0 : ∀ n s H, J n s H → n + s.length ≤ 1000000000 ∧ ∃ b, b ≤ 1 ∧ nth H rs = some (strR s b))
  (h1 : ∀ n s H, s ≠ [] → J n s H → Ret G yN [.yl r, .m (.i .i64 (n : Int)), .m (.s (hdB 10 s))] H fun v H' => (v = .m (.b false) ∧ Q (.tu []) H') ∨ (v = .m (.b true) ∧ (∃ s' b, nth H' rs = some (strR s' b)) ∧ J (n + 1) ((tlB 10 s).getD []) (H'.set rs (strR ((tlB 10 s).getD []) 1))))
  (h2 : ∀ n H, J n [] H → Q (.tu []) H) (s : List Nat) (H : Hp) (hJ : J 1 s H) : Ret G 39 [.yl r, .pt rs 1 0 0] H Q := by
 refine ret_sh mono rfl rfl rfl rfl rfl ?_
 simp
 refine (?key : ∀ (s : List Nat) (n : Nat) (B : List (Nat × List V)) (H : Hp), J n s H → Run G c39_B0 (S39_0 (.yl r) (.pt rs 1 0 0) (.m (.i .i64 (n : Int))) B H) _) s 1 [] H hJ
 clear hJ
 refine indM (fun s : List Nat => s.length) fun s ih n B H hJ => ?_
 obtain ⟨hl, b1, hb1, k1⟩ := h0 n s H hJ
 unfold c39_B0
 by_cases hs : s = []
 ·subst hs
  have hq := h2 n H hJ
  simp [k1, hb1, hq]
 ·have gc := fun H => cut_s s (by omega) 10 (by omega) H
  have wn : wr .i64 ((n : Int) + 1) = (n : Int) + 1 := wr_i64 (by omega) (by omega)
  simp [k1, hb1, hs, cl (gc _), cutT]
  rw [callC_some]
  refine retm (h1 n s H hs hJ) fun v H' hq => ?_
  rcases hq with ⟨rfl, hq⟩ | ⟨rfl, ⟨s', b, k4⟩, hJ'⟩
  ·simp [hq]
  ·have hlt := nl_lt k4
   have es : setEl H' rs (strR ((tlB 10 s).getD []) 1) = some (H'.set rs (strR ((tlB 10 s).getD []) 1)) := setEl_put _ _ _ hlt
   have hlen : ((tlB 10 s).getD []).length < s.length := by
    cases ht : tlB 10 s with
    | none => simp; exact List.length_pos_iff.2 hs
    | some t => have := tlB_len ht; simp; omega
   simp [k4, es, wn]
   exact ih _ hlen (n + 1) _ _ hJ'
end Go.Mx.Tryz
