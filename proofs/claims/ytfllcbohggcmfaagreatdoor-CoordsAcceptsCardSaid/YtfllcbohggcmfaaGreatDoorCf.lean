/- CoordsAccepts: what is read is written and read again. -/
import Derived.Test.YtfllcbohggcmfaaGreatDoorCd
import Derived.Test.YtfllcbohggcmfaaGreatDoorKn
import Derived.Test.YtfllcbohggcmfaaGreatDoorKq
import Derived.Test.YtfllcbohggcmfaaGreatDoorArg
import Derived.Test.YtfllcbohggcmfaaGreatDoorAwake
set_option linter.unusedSimpArgs false
set_option linter.unusedVariables false
set_option linter.unusedSectionVars false
set_option maxRecDepth 100000
namespace Go.Mx.Tryz
open Go.Lib

/-- The line of a cell reads back. -/
theorem numM_itoa (x : Int) (h : -1048576 ≤ x ∧ x ≤ 1048576) : numM (itoaN x) = x ∧ numOk (itoaN x) = true := by
  obtain ⟨k1, k2⟩ := numV_itoa x (by omega) (by omega)
  refine ⟨?_, k2⟩
  unfold numM
  rw [k1, if_pos (by omega)]
theorem cfM_line {c : Ce} (h : small c) : cfM (lineT c) = (c, 0) := by
  obtain ⟨h1, h2, h3⟩ := h
  obtain ⟨x1, x2⟩ := numM_itoa c.x h1
  obtain ⟨y1, y2⟩ := numM_itoa c.y h2
  obtain ⟨z1, z2⟩ := numM_itoa c.s (by omega)
  have wx : wr .i64 (-c.x) = -c.x := wr_i64 (by omega) (by omega)
  have wy : wr .i64 (-c.y) = -c.y := wr_i64 (by omega) (by omega)
  have fin : ∀ z, 1 ≤ z ∧ z < 8 → chkC c.x c.y z = (⟨c.x, c.y, z⟩, 0) := fun z hz => by
    unfold chkC
    rw [wx, wy, if_neg (by omega), if_neg (by omega)]
  unfold cfM
  by_cases hs : c.s = 1
  · rw [spl_line1 c hs]
    simp only [x2, y2, and_self, if_true, x1, y1]
    rw [fin 1 (by omega)]
    cases c
    simp at hs
    simp [hs]
  · rw [spl_line2 c hs]
    simp only [x2, y2, z2, and_self, if_true, x1, y1, z1]
    rw [fin c.s h3]
theorem prs_lines {p : List Ce} (hp : ∀ c, c ∈ p → small c) (hw : p.Pairwise apart) (hl : p.length ≤ 5000) : ∀ (r f : List Ce) (n : Int), n ≠ 1 → 1 ≤ n → f ++ r = p → prs cfM n (r.map lineT) f = .inl p
  | [], f, n, _, _, he => by
    rw [List.append_nil] at he
    rw [← he]
    rfl
  | c :: r, f, n, h1, h2, he => by
    have hc : c ∈ p := by rw [← he]; simp
    have hcf := cfM_line (hp c hc)
    obtain ⟨s1, s2⟩ := lineT_st c
    have hfl : f.length + 1 ≤ 5000 := by rw [← he] at hl; simp at hl; omega
    have ha : (f.any fun d => decide (d.x = c.x ∧ d.y = c.y)) = false := by
      rw [List.any_eq_false]
      intro d hd
      rw [← he] at hw
      have := (List.pairwise_append.1 hw).2.2 d hd c (by simp)
      unfold apart at this
      simpa using this
    have hst : step cfM n (lineT c) f = .go (f ++ [c]) := by
      unfold step
      rw [if_neg h1, if_neg (by intro h; rcases h with h | h; exact s1 h; exact s2 h), hcf]
      simp only
      rw [if_neg (by simp), ha, if_neg (by simp), if_neg (by omega)]
    have e : prs cfM n ((c :: r).map lineT) f = match step cfM n (lineT c) f with | .go f' => prs cfM (n + 1) (r.map lineT) f' | .er e => .inr (n, e) := rfl
    rw [e, hst]
    exact prs_lines hp hw hl r (f ++ [c]) (n + 1) (by omega) (by omega) (by rw [← he]; simp)
theorem pw_apart {p : List Ce} (hw : p.Pairwise fun a b => less a b = true) : p.Pairwise apart := hw.imp fun {a b} h => by
  unfold less at h
  unfold apart
  simp at h
  omega
/-- The text of a pattern reads as it. -/
theorem parse_back {p : List Ce} (hw : p.Pairwise fun a b => less a b = true) (hg : ∀ c, c ∈ p → good c = true) (hl : p.length ≤ 1900) (H : Hp) : Gives G 10 [.m (.s (headC ++ textP p))] H (.tu [.m (zP p), .m (.i .i64 0), .m (.i .i64 0)]) H := by
  have hs : ∀ c, c ∈ p → small c := fun c hc => good_small (hg c hc)
  have tl := textP_len p hs
  have h7 : (headC ++ textP p).length ≤ 65536 := by
    have : headC.length = 7 := rfl
    rw [List.length_append]
    omega
  have hpr : prs cfM 1 (linesA [] (headC ++ textP p)) [] = .inl p := by
    rw [lines_text]
    have e : prs cfM 1 ([35, 99, 101, 108, 108, 115] :: p.map lineT) [] = prs cfM 2 (p.map lineT) [] := rfl
    rw [e]
    exact prs_lines hs (pw_apart hw) (by omega) p [] 2 (by omega) (by omega) rfl
  rcases parse_m (headC ++ textP p) h7 (by simp [headC]) (fun y hy => by
      rcases List.mem_append.1 hy with h | h
      · exact (show ∀ y, y ∈ headC → y < 256 by decide) y h
      · exact textP_256 p y h) with ⟨n, e, hp, _⟩ | ⟨f, q, hp, k1, k2, k3, _, _, g⟩
  · rw [hpr] at hp; cases hp
  · rw [hpr] at hp
    cases hp
    have := asc_eq hw k2 k1
    subst this
    exact g H

/- How many cells a text can have. -/
def sumL (ls : List (List Nat)) : Nat := (ls.map fun l => l.length + 1).sum
theorem linesA_sum : ∀ (s cur : List Nat), sumL (linesA cur s) ≤ cur.length + s.length + 1
  | [], cur => by
    have e : linesA cur [] = if cur = [] then [] else [cur] := rfl
    rw [e]
    split
    · simp [sumL]
    · simp [sumL]
  | x :: r, cur => by
    have e : linesA cur (x :: r) = if x = 10 then cur :: linesA [] r else linesA (cur ++ [x]) r := rfl
    rw [e]
    split
    · have := linesA_sum r []
      unfold sumL at *
      simp at this ⊢
      omega
    · have := linesA_sum r (cur ++ [x])
      simp at this ⊢
      omega
theorem spl_two {l a : List Nat} {b : List Nat} {r : List (List Nat)} (h : spl 32 l = a :: b :: r) (ha : a ≠ []) (hb : b ≠ []) : 3 ≤ l.length := by
  cases ht : tlB 32 l with
  | none => rw [spl_none 32 l ht] at h; cases h
  | some t =>
    have hl := tlB_len ht
    rw [spl_some 32 l t ht] at h
    injection h with h1 h2
    subst h1
    have h3 := List.length_pos_iff.2 ha
    have ht0 : t ≠ [] := fun e => by
      subst e
      have : spl 32 [] = [[]] := rfl
      rw [this] at h2
      injection h2 with h2 _
      exact hb h2.symm
    have h4 := List.length_pos_iff.2 ht0
    omega
theorem numOk_ne {s : List Nat} (h : numOk s = true) : s ≠ [] := fun e => by
  subst e
  exact absurd h (by decide)
theorem cfM_len {l : List Nat} (h : (cfM l).2 = 0) : 3 ≤ l.length := by
  unfold cfM at h
  cases hs : spl 32 l with
  | nil => rw [hs] at h; cases h
  | cons a r =>
    cases r with
    | nil => rw [hs] at h; cases h
    | cons b r =>
      rw [hs] at h
      have key : numOk a = true ∧ numOk b = true := by
        cases r with
        | nil =>
          simp only at h
          split at h
          · assumption
          · cases h
        | cons c r =>
          cases r with
          | nil =>
            simp only at h
            split at h
            · rename_i hk; exact ⟨hk.1, hk.2.1⟩
            · cases h
          | cons d r => cases h
      exact spl_two hs (numOk_ne key.1) (numOk_ne key.2)
theorem prs_len : ∀ (ls : List (List Nat)) (n : Int) (f0 f : List Ce), prs cfM n ls f0 = .inl f → 4 * f.length ≤ 4 * f0.length + sumL ls
  | [], n, f0, f, h => by
    cases h
    omega
  | l :: r, n, f0, f, h => by
    have e : prs cfM n (l :: r) f0 = match step cfM n l f0 with | .go f' => prs cfM (n + 1) r f' | .er e => .inr (n, e) := rfl
    rw [e] at h
    have es : sumL (l :: r) = l.length + 1 + sumL r := by simp [sumL]
    cases hst : step cfM n l f0 with
    | er x => rw [hst] at h; cases h
    | go f' =>
      rw [hst] at h
      have ih := prs_len r (n + 1) f' f h
      have key : 4 * f'.length ≤ 4 * f0.length + (l.length + 1) := by
        unfold step at hst
        split at hst
        · split at hst
          · cases hst; omega
          · cases hst
        · split at hst
          · cases hst; omega
          · split at hst
            · cases hst
            · rename_i hz
              split at hst
              · cases hst
              · split at hst
                · cases hst
                · cases hst
                  have := cfM_len (l := l) (by omega)
                  simp
                  omega
      omega
theorem pw_chain : ∀ (p : List Ce) (o : Option Ce), (p.Pairwise fun a b => less a b = true) → (∀ c, c ∈ p → good c = true) → (∀ a, o = some a → ∀ d, d ∈ p → less a d = true) → chain o p = true
  | [], o, _, _, _ => by cases o <;> rfl
  | c :: r, o, hw, hg, ho => by
    obtain ⟨h1, h2⟩ := List.pairwise_cons.1 hw
    have ih := pw_chain r (some c) h2 (fun d hd => hg d (by simp [hd])) (fun a ha d hd => by cases ha; exact h1 d hd)
    have hc := hg c (by simp)
    cases o with
    | none =>
      show (good c && chain (some c) r) = true
      rw [hc, ih]
      rfl
    | some a =>
      show (good c && less a c && chain (some c) r) = true
      rw [hc, ho a rfl c (by simp), ih]
      rfl
theorem pw_right {p : List Ce} (hw : p.Pairwise fun a b => less a b = true) (hg : ∀ c, c ∈ p → good c = true) (hl : p.length ≤ 5000) : right p = true := by
  unfold right
  rw [decide_eq_true hl, pw_chain p none hw hg (fun a ha => by cases ha)]
  rfl
theorem step_er0 {n : Int} {l : List Nat} {f : List Ce} : step cfM n l f ≠ .er 0 := fun h => by
  unfold step at h
  split at h
  · split at h <;> cases h
  · split at h
    · cases h
    · split at h
      · rename_i hz
        injection h with h
        exact hz h
      · split at h
        · cases h
        · split at h <;> cases h
theorem prs_er0 : ∀ (ls : List (List Nat)) (n m : Int) (f0 : List Ce), prs cfM n ls f0 ≠ .inr (m, 0)
  | [], n, m, f0, h => by cases h
  | l :: r, n, m, f0, h => by
    have e : prs cfM n (l :: r) f0 = match step cfM n l f0 with | .go f' => prs cfM (n + 1) r f' | .er e => .inr (n, e) := rfl
    rw [e] at h
    cases hst : step cfM n l f0 with
    | er x =>
      rw [hst] at h
      injection h with h
      injection h with _ h
      subst h
      exact step_er0 hst
    | go f' =>
      rw [hst] at h
      exact prs_er0 r (n + 1) m f' h
theorem law_accepts (hA : Gives G 9 [] [] (.m (.b true)) []) {s : List Nat} (hs : s.length ≤ 9223372036854775807) (hb : ∀ c, c ∈ s → c < 256) : Gives G 6 [.m (.s s)] [] (.m (.b true)) [] := by
  refine gives_pur rfl rfl rfl rfl rfl ?_
  by_cases h5 : 5000 < s.length
  · have h' : (5000 : Int) < s.length := by omega
    simp (maxSteps := 2000000) (disch := omega) [gd_in, gd_and, wr_i64, h', cl hA]
  · have h' : ¬ (5000 : Int) < s.length := by omega
    by_cases h0 : s = []
    · subst h0
      simp (maxSteps := 2000000) (disch := omega) [gd_in, gd_and, wr_i64, cl (parse_nil _), gcall_cx, cl hA]
    · rcases parse_m s (by omega) h0 hb with ⟨n, e, hp, gp⟩ | ⟨f, q, hp, k1, k2, k3, k4, k5, gp⟩
      · have he : ¬ e = 0 := fun h => by
          subst h
          exact prs_er0 _ _ _ _ hp
        simp (maxSteps := 2000000) (disch := omega) [gd_in, gd_and, wr_i64, h', cl (gp _), he, gcall_cx, cl hA]
      · have hR := pw_right k3 k4 k5
        have hlen : q.length ≤ 1900 := by
          have h1 := prs_len _ _ _ _ hp
          have h2 := linesA_sum s []
          have h3 := k1.length_eq
          simp at h1 h2
          omega
        have gt := fun H => text_s (zP_sl q) hlen H
        unfold texV at gt
        rw [hR] at gt
        simp only [if_true] at gt
        have gb := fun H => parse_back k3 k4 hlen H
        have gr := right_r (zP_sl q) (by omega)
        rw [hR] at gr
        have gs := fun H => same_r (zP_sl q) (zP_sl q) (by omega) H
        generalize headC ++ textP q = t at *
        simp (maxSteps := 2000000) (disch := omega) [gd_in, gd_and, wr_i64, h', cl (gp _), cl (gt _), cl (gb _), cl (gr _), cl (gs _), gcall_cx, cl hA]
theorem coords_accepts (us : List V) (h : ArgsOk Go.Proofs.Tryz.prog maxLen 8 Go.Proofs.Tryz.f6.params.toList us) : Gives G 6 us [] (.m (.b true)) [] := by
  have e : Go.Proofs.Tryz.f6.params.toList = [9] := by rw [Go.Proofs.Tryz.params6]
  have h := e ▸ h
  obtain ⟨s, r, rfl, hl, hb, h2⟩ := arg_strC h
  have := argsOk_nil h2
  subst this
  exact law_accepts gives_awake hl hb
end Go.Mx.Tryz
