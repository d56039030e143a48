/- The text of a pattern, read again: plain facts; CoordsTexts. -/
import Derived.Test.YtfllcbohggcmfaaGreatDoorKi
import Derived.Test.YtfllcbohggcmfaaGreatDoorKc
import Derived.Test.YtfllcbohggcmfaaGreatDoorArg
set_option linter.unusedSimpArgs false
set_option linter.unusedVariables false
set_option linter.unusedSectionVars false
set_option maxRecDepth 100000
namespace Go.Mx.Tryz
open Go.Lib

theorem itoaN_32 (x : Int) : ∀ c, c ∈ itoaN x → c ≠ 32 := fun c hc => by have := itoaN_mem x c hc; omega
theorem itoaN_10 (x : Int) : ∀ c, c ∈ itoaN x → c ≠ 10 := fun c hc => by have := itoaN_mem x c hc; omega
theorem sep_hd (c : Nat) : ∀ (a r : List Nat), (∀ y, y ∈ a → y ≠ c) → hdB c (a ++ c :: r) = a ∧ tlB c (a ++ c :: r) = some r
  | [], r, _ => by
    have e1 : tlB c (c :: r) = if c = c then some r else tlB c r := rfl
    have e2 : hdB c (c :: r) = if c = c then [] else c :: hdB c r := rfl
    rw [if_pos rfl] at e1 e2
    exact ⟨e2, e1⟩
  | x :: t, r, h => by
    have hx := h x (by simp)
    obtain ⟨i1, i2⟩ := sep_hd c t r fun y hy => h y (by simp [hy])
    have e1 : tlB c (x :: (t ++ c :: r)) = if x = c then some (t ++ c :: r) else tlB c (t ++ c :: r) := rfl
    have e2 : hdB c (x :: (t ++ c :: r)) = if x = c then [] else x :: hdB c (t ++ c :: r) := rfl
    rw [if_neg hx] at e1 e2
    exact ⟨by rw [List.cons_append, e2, i1], by rw [List.cons_append, e1, i2]⟩
theorem no_tl (c : Nat) : ∀ (a : List Nat), (∀ y, y ∈ a → y ≠ c) → tlB c a = none
  | [], _ => rfl
  | x :: t, h => by
    have e1 : tlB c (x :: t) = if x = c then some t else tlB c t := rfl
    rw [e1, if_neg (h x (by simp)), no_tl c t fun y hy => h y (by simp [hy])]
theorem spl_sep (c : Nat) (a r : List Nat) (h : ∀ y, y ∈ a → y ≠ c) : spl c (a ++ c :: r) = a :: spl c r := by
  obtain ⟨h1, h2⟩ := sep_hd c a r h
  rw [spl_some c _ _ h2, h1]
theorem spl_lone (c : Nat) (a : List Nat) (h : ∀ y, y ∈ a → y ≠ c) : spl c a = [a] := spl_none c a (no_tl c a h)
theorem spl_line1 (c : Ce) (h : c.s = 1) : spl 32 (lineT c) = [itoaN c.x, itoaN c.y] := by
  unfold lineT
  rw [if_pos h, List.append_nil, spl_sep _ _ _ (itoaN_32 _), spl_lone _ _ (itoaN_32 _)]
theorem spl_line2 (c : Ce) (h : c.s ≠ 1) : spl 32 (lineT c) = [itoaN c.x, itoaN c.y, itoaN c.s] := by
  unfold lineT
  rw [if_neg h, spl_sep _ _ _ (itoaN_32 _), spl_sep _ _ _ (itoaN_32 _), spl_lone _ _ (itoaN_32 _)]
theorem cell_t {c : Ce} (h : small c) (H : Hp) : Gives G 20 [.m (.s (lineT c))] H (cellV (c, 0)) H := by
  have hl := lineT_len h
  by_cases h1 : c.s = 1
  · have := cell_2 (lineT c) (by omega) c.x c.y (spl_line1 c h1) h.1 h.2.1 H
    unfold cellV
    rw [h1]
    exact this
  · exact cell_3 (lineT c) (by omega) c.x c.y c.s (spl_line2 c h1) h.1 h.2.1 h.2.2 H
theorem gives_one {f : Nat} {vs : List V} {H H1 H2 : Hp} {v w : V} (h1 : Gives G f vs H v H1) (h2 : Gives G f vs H w H2) : v = w := by
  obtain ⟨m, h1⟩ := h1
  obtain ⟨n, h2⟩ := h2
  have a := callM_mono mono (Nat.le_max_left m n) _ _ _ _ h1
  have b := callM_mono mono (Nat.le_max_right m n) _ _ _ _ h2
  rw [a] at b
  cases b
  rfl
theorem lineT_inj {c d : Ce} (hc : small c) (hd : small d) (h : lineT c = lineT d) : c = d := by
  have h1 := cell_t hc []
  have h2 := cell_t hd []
  rw [h] at h1
  have := gives_one h1 h2
  unfold cellV at this
  cases c; cases d
  simp at this
  simp [this]
theorem lineT_10 (c : Ce) : ∀ y, y ∈ lineT c → y ≠ 10 := by
  intro y hy
  unfold lineT at hy
  rcases List.mem_append.1 hy with h | h
  · exact itoaN_10 _ y h
  · rcases List.mem_cons.1 h with h | h
    · omega
    · rcases List.mem_append.1 h with h | h
      · exact itoaN_10 _ y h
      · split at h
        · cases h
        · rcases List.mem_cons.1 h with h | h
          · omega
          · exact itoaN_10 _ y h
theorem lineT_256 (c : Ce) : ∀ y, y ∈ lineT c → y < 256 := by
  intro y hy
  unfold lineT at hy
  rcases List.mem_append.1 hy with h | h
  · exact itoaN_byte _ y h
  · rcases List.mem_cons.1 h with h | h
    · omega
    · rcases List.mem_append.1 h with h | h
      · exact itoaN_byte _ y h
      · split at h
        · cases h
        · rcases List.mem_cons.1 h with h | h
          · omega
          · exact itoaN_byte _ y h
theorem textP_256 : ∀ (p : List Ce), ∀ y, y ∈ textP p → y < 256
  | [], y, h => by cases h
  | c :: r, y, h => by
    have h' : y ∈ (lineT c ++ [10]) ++ textP r := h
    rcases List.mem_append.1 h' with h | h
    · rcases List.mem_append.1 h with h | h
      · exact lineT_256 c y h
      · rcases List.mem_cons.1 h with h | h
        · omega
        · cases h
    · exact textP_256 r y h
theorem lineT_st (c : Ce) : lineT c ≠ [] ∧ (lineT c).take 1 ≠ [35] := by
  unfold lineT
  have hm := itoaN_mem c.x
  cases hx : itoaN c.x with
  | nil => exact absurd hx (itoaN_ne _)
  | cons a t =>
    rw [hx] at hm
    have := hm a (by simp)
    refine ⟨by simp, ?_⟩
    simp
    omega
theorem lines_sep (a r : List Nat) (h : ∀ y, y ∈ a → y ≠ 10) : linesA [] (a ++ 10 :: r) = a :: linesA [] r := by
  obtain ⟨h1, h2⟩ := sep_hd 10 a r h
  rw [lines_hd (by simp), h1, h2]
  rfl
theorem lines_textP : ∀ p : List Ce, linesA [] (textP p) = p.map lineT
  | [] => rfl
  | c :: r => by
    have e : textP (c :: r) = (lineT c ++ [10]) ++ textP r := rfl
    rw [e, List.append_assoc, List.singleton_append, lines_sep _ _ (lineT_10 c), lines_textP r]
    rfl
theorem lines_text (p : List Ce) : linesA [] (headC ++ textP p) = [35, 99, 101, 108, 108, 115] :: p.map lineT := by
  have e : headC ++ textP p = [35, 99, 101, 108, 108, 115] ++ 10 :: textP p := rfl
  rw [e, lines_sep _ _ (by decide), lines_textP]
theorem kind_text (p : List Ce) : kindN (headC ++ textP p) = 3 := by
  have e : headC ++ textP p = [35, 99, 101, 108, 108, 115] ++ 10 :: textP p := rfl
  unfold kindN
  rw [e, (sep_hd 10 [35, 99, 101, 108, 108, 115] (textP p) (by decide)).1, if_pos rfl]
/-- What coords.cell answers on the lines of p. -/
noncomputable def cfP (p : List Ce) (l : List Nat) : Ce × Int := match p.find? (fun c => decide (lineT c = l)) with
  | some c => (c, 0)
  | none => (⟨0, 0, 0⟩, 0)
theorem cfP_line {p : List Ce} (hp : ∀ c, c ∈ p → small c) {c : Ce} (hc : c ∈ p) : cfP p (lineT c) = (c, 0) := by
  unfold cfP
  cases h : p.find? (fun d => decide (lineT d = lineT c)) with
  | none =>
    have := List.find?_eq_none.1 h c hc
    simp at this
  | some d =>
    have h1 := List.find?_some h
    have h2 := List.mem_of_find?_eq_some h
    simp at h1
    rw [lineT_inj (hp d h2) (hp c hc) h1]
theorem chain_pw : ∀ (p : List Ce) (o : Option Ce), chain o p = true → p.Pairwise (fun a b => less a b = true) ∧ (∀ a, o = some a → ∀ d, d ∈ p → less a d = true) ∧ ∀ d, d ∈ p → good d = true
  | [], _, _ => ⟨.nil, fun _ _ d hd => by simp at hd, fun d hd => by simp at hd⟩
  | c :: r, o, h => by
    have h' : good c = true ∧ (∀ a, o = some a → less a c = true) ∧ chain (some c) r = true := by
      cases o with
      | none =>
        have : (good c && chain (some c) r) = true := h
        rw [Bool.and_eq_true] at this
        exact ⟨this.1, fun _ h => (by cases h), this.2⟩
      | some a =>
        have : (good c && less a c && chain (some c) r) = true := h
        simp only [Bool.and_eq_true] at this
        exact ⟨this.1.1, fun _ h => (by cases h; exact this.1.2), this.2⟩
    obtain ⟨g1, g2, g3⟩ := h'
    obtain ⟨i1, i2, i3⟩ := chain_pw r (some c) g3
    refine ⟨List.pairwise_cons.2 ⟨fun d hd => i2 c rfl d hd, i1⟩, fun a ha d hd => ?_, fun d hd => ?_⟩
    · rcases List.mem_cons.1 hd with rfl | hd
      · exact g2 a ha
      · have h1 := g2 a ha
        have h2 := i2 c rfl d hd
        unfold less at *
        grind
    · rcases List.mem_cons.1 hd with rfl | hd
      · exact g1
      · exact i3 d hd
theorem right_pw {p : List Ce} (h : right p = true) : p.Pairwise (fun a b => less a b = true) ∧ (∀ d, d ∈ p → good d = true) ∧ p.length ≤ 5000 := by
  unfold right at h
  simp only [Bool.and_eq_true, decide_eq_true_eq] at h
  have := chain_pw p none h.2
  exact ⟨this.1, this.2.2, h.1⟩
theorem prs_text {p : List Ce} (hp : ∀ c, c ∈ p → small c) (hw : p.Pairwise (fun a b => less a b = true)) (hl : p.length ≤ 300) : ∀ (r f : List Ce) (n : Int), n ≠ 1 → 1 ≤ n → f ++ r = p → prs (cfP p) n (r.map lineT) f = .inl p
  | [], f, n, _, _, he => by
    rw [List.append_nil] at he
    rw [← he]
    rfl
  | c :: r, f, n, h1, h2, he => by
    have hc : c ∈ p := by rw [← he]; simp
    have hcf := cfP_line hp hc
    obtain ⟨s1, s2⟩ := lineT_st c
    have hfl : f.length ≤ 300 := by rw [← he] at hl; simp at hl; omega
    have ha : (f.any fun d => decide (d.x = c.x ∧ d.y = c.y)) = false := by
      rw [List.any_eq_false]
      intro d hd
      rw [← he] at hw
      have := (List.pairwise_append.1 hw).2.2 d hd c (by simp)
      unfold less at this
      simp at this ⊢
      omega
    have hst : step (cfP p) n (lineT c) f = .go (f ++ [c]) := by
      unfold step
      rw [if_neg h1, if_neg (by intro h; rcases h with h | h; exact s1 h; exact s2 h), hcf]
      simp only
      rw [if_neg (by simp), ha, if_neg (by simp), if_neg (by omega)]
    have e : prs (cfP p) n ((c :: r).map lineT) f = match step (cfP p) n (lineT c) f with | .go f' => prs (cfP p) (n + 1) (r.map lineT) f' | .er e => .inr (n, e) := rfl
    rw [e, hst]
    exact prs_text hp hw hl r (f ++ [c]) (n + 1) (by omega) (by omega) (by rw [← he]; simp)
theorem prs_all {p : List Ce} (hp : ∀ c, c ∈ p → small c) (hw : p.Pairwise (fun a b => less a b = true)) (hl : p.length ≤ 300) : prs (cfP p) 1 (linesA [] (headC ++ textP p)) [] = .inl p := by
  rw [lines_text]
  have e : prs (cfP p) 1 ([35, 99, 101, 108, 108, 115] :: p.map lineT) [] = prs (cfP p) 2 (p.map lineT) [] := rfl
  rw [e]
  exact prs_text hp hw hl p [] 2 (by omega) (by omega) rfl
theorem bad_good : ∀ {p : List Ce}, (∀ c, c ∈ p → good c = true) → bad p = none
  | [], _ => rfl
  | c :: r, h => by
    have hc := h c (by simp)
    unfold good at hc
    simp only [Bool.and_eq_true, decide_eq_true_eq] at hc
    have e : badC c = none := by
      unfold badC
      rw [if_neg (by rw [hc.1.1]; simp), if_neg (by omega)]
    have e2 : bad (c :: r) = match badC c with | some e => some e | none => bad r := rfl
    rw [e2, e]
    exact bad_good fun d hd => h d (by simp [hd])
theorem tw_pw : ∀ {p : List Ce}, p.Pairwise (fun a b => less a b = true) → tw p = false
  | [], _ => rfl
  | [_], _ => rfl
  | a :: b :: r, h => by
    have e : tw (a :: b :: r) = (decide (a.x = b.x ∧ a.y = b.y) || tw (b :: r)) := rfl
    obtain ⟨h1, h2⟩ := List.pairwise_cons.1 h
    have := h1 b (by simp)
    rw [e, tw_pw h2, Bool.or_false]
    unfold less at this
    simp at this ⊢
    omega
theorem asc_eq {p q : List Ce} (hw : p.Pairwise (fun a b => less a b = true)) (hq : Asc q) (hpm : q.Perm p) : q = p := by
  have hqp : q.Pairwise (fun a b => less b a = false) := by
    rw [List.pairwise_iff_getElem]
    intro i j hi hj hij
    exact hq i j _ _ hij (List.getElem?_eq_getElem hi) (List.getElem?_eq_getElem hj)
  have hpp : p.Pairwise (fun a b => less b a = false) := hw.imp fun {a b} h => by
    unfold less at *
    simp at h ⊢
    omega
  refine hpm.eq_of_pairwise (fun a b ha hb h1 h2 => ?_) hqp hpp
  have ha' : a ∈ p := hpm.mem_iff.1 ha
  obtain ⟨i, hi, rfl⟩ := List.mem_iff_getElem.1 ha'
  obtain ⟨j, hj, rfl⟩ := List.mem_iff_getElem.1 hb
  rcases Nat.lt_trichotomy i j with h | h | h
  · have := List.pairwise_iff_getElem.1 hw i j hi hj h
    rw [this] at h2; cases h2
  · subst h; rfl
  · have := List.pairwise_iff_getElem.1 hw j i hj hi h
    rw [this] at h1; cases h1
theorem fromR_right {p : List Ce} (h : right p = true) {a : I} {e : Int} (hf : FromR p a e) : a = zP p ∧ e = 0 := by
  obtain ⟨hw, hg, h5⟩ := right_pw h
  have hl : liv p = p := by
    unfold liv
    rw [List.filter_eq_self]
    intro c hc
    have := hg c hc
    unfold good at this
    simp only [Bool.and_eq_true, decide_eq_true_eq] at this
    exact decide_eq_true (by omega)
  rcases hf with ⟨hb, _⟩ | ⟨_, q, h1, h2, h3⟩
  · rw [bad_good hg] at hb; cases hb
  · rw [hl] at h1
    have := asc_eq hw h2 h1
    subst this
    rcases h3 with ⟨ht, _⟩ | ⟨_, h6, _⟩ | ⟨_, _, h7, h8⟩
    · rw [tw_pw hw] at ht; cases ht
    · omega
    · exact ⟨h7, h8⟩
theorem parse_text {p : List Ce} (h : right p = true) (hl : p.length ≤ 300) (H : Hp) : Gives G 10 [.m (.s (headC ++ textP p))] H (.tu [.m (zP p), .m (.i .i64 0), .m (.i .i64 0)]) H := by
  obtain ⟨hw, hg, h5⟩ := right_pw h
  have hp := right_small h
  have tl := textP_len p hp
  have h7 : (headC ++ textP p).length ≤ 65536 := by
    have : headC.length = 7 := rfl
    rw [List.length_append]
    omega
  obtain ⟨v, h1, h2⟩ := parse_w (cfP p) (headC ++ textP p) h7 (by simp [headC]) (fun l hl1 _ _ H => by
    rw [lines_text] at hl1
    obtain ⟨c, hc, rfl⟩ := List.mem_map.1 (show l ∈ p.map lineT from hl1)
    rw [cfP_line hp hc]
    exact cell_t (hp c hc) H) H
  rw [prs_all hp hw hl] at h1
  obtain ⟨a, e, h3, rfl⟩ := h1
  obtain ⟨rfl, rfl⟩ := fromR_right h h3
  exact h2
theorem law_texts (hA : Gives G 9 [] [] (.m (.b true)) []) {v : I} {p : List Ce} (hv : IsSl v (cells3 p)) : Gives G 5 [.m v] [] (.m (.b true)) [] := by
  refine gives_pur rfl rfl rfl rfl rfl ?_
  by_cases h : 300 < p.length
  · have h' : (300 : Int) < p.length := by omega
    simp [hv.rules, h', gcall_cx, cl hA]
  · have h' : ¬ (300 : Int) < p.length := by omega
    have g1 := fun H => text_s hv (by omega) H
    have g2 := fun H => text_r hv (by omega) H
    unfold texV at g1 g2
    cases hR : right p with
    | false =>
      rw [hR] at g1 g2
      simp only [Bool.false_eq_true, if_false] at g1 g2
      simp [hv.rules, h', gcall_cx, cl (g1 _), cl (g2 _), cl hA]
    | true =>
      rw [hR] at g1 g2
      simp only [if_true] at g1 g2
      have g3 := fun H => parse_text hR (by omega) H
      have tl := textP_len p (right_small hR)
      have g4 := fun H => kind_s (headC ++ textP p) (by
        have : headC.length = 7 := rfl
        rw [List.length_append]
        omega) (fun y hy => by
          rcases List.mem_append.1 hy with h | h
          · exact (show ∀ y, y ∈ headC → y < 256 by decide) y h
          · exact textP_256 p y h) H
      rw [kind_text] at g4
      have g5 := fun H => same_r hv (zP_sl p) (by omega) H
      generalize headC ++ textP p = s at *
      simp [hv.rules, h', gcall_cx, cl (g1 _), cl (g2 _), cl (g3 _), cl (g4 _), cl (g5 _), cl hA]
theorem coords_texts (us : List V) (h : ArgsOk Go.Proofs.Tryz.prog maxLen 8 Go.Proofs.Tryz.f5.params.toList us) : Gives G 5 us [] (.m (.b true)) [] := by
  have e : Go.Proofs.Tryz.f5.params.toList = [24] := by rw [Go.Proofs.Tryz.params5]
  have h := e ▸ h
  obtain ⟨p, v, _, hv, _, rfl, h2⟩ := arg_pat h
  have := argsOk_nil h2
  subst this
  exact law_texts gives_awake hv
end Go.Mx.Tryz
