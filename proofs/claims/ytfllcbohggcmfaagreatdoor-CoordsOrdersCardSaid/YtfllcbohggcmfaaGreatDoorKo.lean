/- CoordsOrders: lines in any order; the plain facts. -/
import Derived.Test.YtfllcbohggcmfaaGreatDoorKh
import Derived.Test.YtfllcbohggcmfaaGreatDoorArg
import Derived.Test.YtfllcbohggcmfaaGreatDoorAwake
set_option linter.unusedSimpArgs false
set_option linter.unusedVariables false
set_option linter.unusedSectionVars false
set_option maxRecDepth 100000
namespace Go.Mx.Tryz
open Go.Lib

theorem itoaN_32 (x : Int) : ∀ c, c ∈ itoaN x → c ≠ 32 := fun c hc => by have := itoaN_mem x c hc; omega
theorem itoaN_10 (x : Int) : ∀ c, c ∈ itoaN x → c ≠ 10 := fun c hc => by have := itoaN_mem x c hc; omega
theorem sep_hd (c : Nat) : ∀ (a r : List Nat), (∀ y, y ∈ a → y ≠ c) → hdB c (a ++ c :: r) = a ∧ tlB c (a ++ c :: r) = some r
  | [], r, _ => by
    have e1 : tlB c (c :: r) = if c = c then some r else tlB c r := rfl
    have e2 : hdB c (c :: r) = if c = c then [] else c :: hdB c r := rfl
    rw [if_pos rfl] at e1 e2
    exact ⟨e2, e1⟩
  | x :: t, r, h => by
    have hx := h x (by simp)
    obtain ⟨i1, i2⟩ := sep_hd c t r fun y hy => h y (by simp [hy])
    have e1 : tlB c (x :: (t ++ c :: r)) = if x = c then some (t ++ c :: r) else tlB c (t ++ c :: r) := rfl
    have e2 : hdB c (x :: (t ++ c :: r)) = if x = c then [] else x :: hdB c (t ++ c :: r) := rfl
    rw [if_neg hx] at e1 e2
    exact ⟨by rw [List.cons_append, e2, i1], by rw [List.cons_append, e1, i2]⟩
theorem no_tl (c : Nat) : ∀ (a : List Nat), (∀ y, y ∈ a → y ≠ c) → tlB c a = none
  | [], _ => rfl
  | x :: t, h => by
    have e1 : tlB c (x :: t) = if x = c then some t else tlB c t := rfl
    rw [e1, if_neg (h x (by simp)), no_tl c t fun y hy => h y (by simp [hy])]
theorem spl_sep (c : Nat) (a r : List Nat) (h : ∀ y, y ∈ a → y ≠ c) : spl c (a ++ c :: r) = a :: spl c r := by
  obtain ⟨h1, h2⟩ := sep_hd c a r h
  rw [spl_some c _ _ h2, h1]
theorem spl_lone (c : Nat) (a : List Nat) (h : ∀ y, y ∈ a → y ≠ c) : spl c a = [a] := spl_none c a (no_tl c a h)
theorem gives_one {f : Nat} {vs : List V} {H H1 H2 : Hp} {v w : V} (h1 : Gives G f vs H v H1) (h2 : Gives G f vs H w H2) : v = w := by
  obtain ⟨m, h1⟩ := h1
  obtain ⟨n, h2⟩ := h2
  have a := callM_mono mono (Nat.le_max_left m n) _ _ _ _ h1
  have b := callM_mono mono (Nat.le_max_right m n) _ _ _ _ h2
  rw [a] at b
  cases b
  rfl
theorem lines_sep (a r : List Nat) (h : ∀ y, y ∈ a → y ≠ 10) : linesA [] (a ++ 10 :: r) = a :: linesA [] r := by
  obtain ⟨h1, h2⟩ := sep_hd 10 a r h
  rw [lines_hd (by simp), h1, h2]
  rfl
theorem chain_pw : ∀ (p : List Ce) (o : Option Ce), chain o p = true → p.Pairwise (fun a b => less a b = true) ∧ (∀ a, o = some a → ∀ d, d ∈ p → less a d = true) ∧ ∀ d, d ∈ p → good d = true
  | [], _, _ => ⟨.nil, fun _ _ d hd => by simp at hd, fun d hd => by simp at hd⟩
  | c :: r, o, h => by
    have h' : good c = true ∧ (∀ a, o = some a → less a c = true) ∧ chain (some c) r = true := by
      cases o with
      | none =>
        have : (good c && chain (some c) r) = true := h
        rw [Bool.and_eq_true] at this
        exact ⟨this.1, fun _ h => (by cases h), this.2⟩
      | some a =>
        have : (good c && less a c && chain (some c) r) = true := h
        simp only [Bool.and_eq_true] at this
        exact ⟨this.1.1, fun _ h => (by cases h; exact this.1.2), this.2⟩
    obtain ⟨g1, g2, g3⟩ := h'
    obtain ⟨i1, i2, i3⟩ := chain_pw r (some c) g3
    refine ⟨List.pairwise_cons.2 ⟨fun d hd => i2 c rfl d hd, i1⟩, fun a ha d hd => ?_, fun d hd => ?_⟩
    · rcases List.mem_cons.1 hd with rfl | hd
      · exact g2 a ha
      · have h1 := g2 a ha
        have h2 := i2 c rfl d hd
        unfold less at *
        grind
    · rcases List.mem_cons.1 hd with rfl | hd
      · exact g1
      · exact i3 d hd
theorem right_pw {p : List Ce} (h : right p = true) : p.Pairwise (fun a b => less a b = true) ∧ (∀ d, d ∈ p → good d = true) ∧ p.length ≤ 5000 := by
  unfold right at h
  simp only [Bool.and_eq_true, decide_eq_true_eq] at h
  have := chain_pw p none h.2
  exact ⟨this.1, this.2.2, h.1⟩
theorem bad_good : ∀ {p : List Ce}, (∀ c, c ∈ p → good c = true) → bad p = none
  | [], _ => rfl
  | c :: r, h => by
    have hc := h c (by simp)
    unfold good at hc
    simp only [Bool.and_eq_true, decide_eq_true_eq] at hc
    have e : badC c = none := by
      unfold badC
      rw [if_neg (by rw [hc.1.1]; simp), if_neg (by omega)]
    have e2 : bad (c :: r) = match badC c with | some e => some e | none => bad r := rfl
    rw [e2, e]
    exact bad_good fun d hd => h d (by simp [hd])
theorem tw_pw : ∀ {p : List Ce}, p.Pairwise (fun a b => less a b = true) → tw p = false
  | [], _ => rfl
  | [_], _ => rfl
  | a :: b :: r, h => by
    have e : tw (a :: b :: r) = (decide (a.x = b.x ∧ a.y = b.y) || tw (b :: r)) := rfl
    obtain ⟨h1, h2⟩ := List.pairwise_cons.1 h
    have := h1 b (by simp)
    rw [e, tw_pw h2, Bool.or_false]
    unfold less at this
    simp at this ⊢
    omega
theorem asc_eq {p q : List Ce} (hw : p.Pairwise (fun a b => less a b = true)) (hq : Asc q) (hpm : q.Perm p) : q = p := by
  have hqp : q.Pairwise (fun a b => less b a = false) := by
    rw [List.pairwise_iff_getElem]
    intro i j hi hj hij
    exact hq i j _ _ hij (List.getElem?_eq_getElem hi) (List.getElem?_eq_getElem hj)
  have hpp : p.Pairwise (fun a b => less b a = false) := hw.imp fun {a b} h => by
    unfold less at *
    simp at h ⊢
    omega
  refine hpm.eq_of_pairwise (fun a b ha hb h1 h2 => ?_) hqp hpp
  have ha' : a ∈ p := hpm.mem_iff.1 ha
  obtain ⟨i, hi, rfl⟩ := List.mem_iff_getElem.1 ha'
  obtain ⟨j, hj, rfl⟩ := List.mem_iff_getElem.1 hb
  rcases Nat.lt_trichotomy i j with h | h | h
  · have := List.pairwise_iff_getElem.1 hw i j hi hj h
    rw [this] at h2; cases h2
  · subst h; rfl
  · have := List.pairwise_iff_getElem.1 hw j i hj hi h
    rw [this] at h1; cases h1
/-- A line with all three numbers. -/
def lin3 (c : Ce) : List Nat := itoaN c.x ++ 32 :: (itoaN c.y ++ 32 :: itoaN c.s)
def txt3 : List Ce → List Nat
  | [] => []
  | c :: r => (lin3 c ++ [10]) ++ txt3 r
theorem txt3_app : ∀ a b : List Ce, txt3 (a ++ b) = txt3 a ++ txt3 b
  | [], _ => rfl
  | c :: r, b => by
    show (lin3 c ++ [10]) ++ txt3 (r ++ b) = ((lin3 c ++ [10]) ++ txt3 r) ++ txt3 b
    rw [txt3_app r b, List.append_assoc (lin3 c ++ [10])]
theorem lin3_len {c : Ce} (h : small c) : (lin3 c).length ≤ 30 := by
  have h1 := itoaN_small c.x h.1
  have h2 := itoaN_small c.y h.2.1
  have h3 := itoaN_small c.s (by have := h.2.2; omega)
  unfold lin3
  simp only [List.length_append, List.length_cons]
  omega
theorem txt3_len : ∀ p : List Ce, (∀ c, c ∈ p → small c) → (txt3 p).length ≤ 31 * p.length
  | [], _ => Nat.zero_le _
  | c :: r, h => by
    have h1 := lin3_len (h c (by simp))
    have h2 := txt3_len r fun d hd => h d (by simp [hd])
    have e : txt3 (c :: r) = (lin3 c ++ [10]) ++ txt3 r := rfl
    rw [e]
    simp only [List.length_append, List.length_cons, List.length_nil]
    omega
theorem cell_l {c : Ce} (h : small c) (H : Hp) : Gives G 20 [.m (.s (lin3 c))] H (cellV (c, 0)) H := by
  have hl := lin3_len h
  refine cell_3 (lin3 c) (by omega) c.x c.y c.s ?_ h.1 h.2.1 h.2.2 H
  unfold lin3
  rw [spl_sep _ _ _ (itoaN_32 _), spl_sep _ _ _ (itoaN_32 _), spl_lone _ _ (itoaN_32 _)]
theorem lin3_inj {c d : Ce} (hc : small c) (hd : small d) (h : lin3 c = lin3 d) : c = d := by
  have h1 := cell_l hc []
  have h2 := cell_l hd []
  rw [h] at h1
  have := gives_one h1 h2
  unfold cellV at this
  cases c; cases d
  simp at this
  simp [this]
theorem lin3_10 (c : Ce) : ∀ y, y ∈ lin3 c → y ≠ 10 := by
  intro y hy
  unfold lin3 at hy
  rcases List.mem_append.1 hy with h | h
  · exact itoaN_10 _ y h
  · rcases List.mem_cons.1 h with h | h
    · omega
    · rcases List.mem_append.1 h with h | h
      · exact itoaN_10 _ y h
      · rcases List.mem_cons.1 h with h | h
        · omega
        · exact itoaN_10 _ y h
theorem lin3_st (c : Ce) : lin3 c ≠ [] ∧ (lin3 c).take 1 ≠ [35] := by
  unfold lin3
  have hm := itoaN_mem c.x
  cases hx : itoaN c.x with
  | nil => exact absurd hx (itoaN_ne _)
  | cons a t =>
    rw [hx] at hm
    have := hm a (by simp)
    refine ⟨by simp, ?_⟩
    simp
    omega
theorem lines_txt3 : ∀ p : List Ce, linesA [] (txt3 p) = p.map lin3
  | [] => rfl
  | c :: r => by
    have e : txt3 (c :: r) = (lin3 c ++ [10]) ++ txt3 r := rfl
    rw [e, List.append_assoc, List.singleton_append, lines_sep _ _ (lin3_10 c), lines_txt3 r]
    rfl
theorem lines_all3 (p : List Ce) : linesA [] (headC ++ txt3 p) = [35, 99, 101, 108, 108, 115] :: p.map lin3 := by
  have e : headC ++ txt3 p = [35, 99, 101, 108, 108, 115] ++ 10 :: txt3 p := rfl
  rw [e, lines_sep _ _ (by decide), lines_txt3]
noncomputable def cf3 (p : List Ce) (l : List Nat) : Ce × Int := match p.find? (fun c => decide (lin3 c = l)) with
  | some c => (c, 0)
  | none => (⟨0, 0, 0⟩, 0)
theorem cf3_line {p : List Ce} (hp : ∀ c, c ∈ p → small c) {c : Ce} (hc : c ∈ p) : cf3 p (lin3 c) = (c, 0) := by
  unfold cf3
  cases h : p.find? (fun d => decide (lin3 d = lin3 c)) with
  | none =>
    have := List.find?_eq_none.1 h c hc
    simp at this
  | some d =>
    have h1 := List.find?_some h
    have h2 := List.mem_of_find?_eq_some h
    simp at h1
    rw [lin3_inj (hp d h2) (hp c hc) h1]
def apart (a b : Ce) : Prop := ¬ (a.x = b.x ∧ a.y = b.y)
theorem prs_3 {p : List Ce} (hp : ∀ c, c ∈ p → small c) (hw : p.Pairwise apart) (hl : p.length ≤ 300) : ∀ (r f : List Ce) (n : Int), n ≠ 1 → 1 ≤ n → f ++ r = p → prs (cf3 p) n (r.map lin3) f = .inl p
  | [], f, n, _, _, he => by
    rw [List.append_nil] at he
    rw [← he]
    rfl
  | c :: r, f, n, h1, h2, he => by
    have hc : c ∈ p := by rw [← he]; simp
    have hcf := cf3_line hp hc
    obtain ⟨s1, s2⟩ := lin3_st c
    have hfl : f.length ≤ 300 := by rw [← he] at hl; simp at hl; omega
    have ha : (f.any fun d => decide (d.x = c.x ∧ d.y = c.y)) = false := by
      rw [List.any_eq_false]
      intro d hd
      rw [← he] at hw
      have := (List.pairwise_append.1 hw).2.2 d hd c (by simp)
      unfold apart at this
      simpa using this
    have hst : step (cf3 p) n (lin3 c) f = .go (f ++ [c]) := by
      unfold step
      rw [if_neg h1, if_neg (by intro h; rcases h with h | h; exact s1 h; exact s2 h), hcf]
      simp only
      rw [if_neg (by simp), ha, if_neg (by simp), if_neg (by omega)]
    have e : prs (cf3 p) n ((c :: r).map lin3) f = match step (cf3 p) n (lin3 c) f with | .go f' => prs (cf3 p) (n + 1) (r.map lin3) f' | .er e => .inr (n, e) := rfl
    rw [e, hst]
    exact prs_3 hp hw hl r (f ++ [c]) (n + 1) (by omega) (by omega) (by rw [← he]; simp)
theorem parse_3 {p f : List Ce} (h : right p = true) (hf : f.Perm p) (hl : p.length ≤ 300) (H : Hp) : Gives G 10 [.m (.s (headC ++ txt3 f))] H (.tu [.m (zP p), .m (.i .i64 0), .m (.i .i64 0)]) H := by
  obtain ⟨hw, hg, h5⟩ := right_pw h
  have hgf : ∀ c, c ∈ f → good c = true := fun c hc => hg c (hf.mem_iff.1 hc)
  have hp : ∀ c, c ∈ f → small c := fun c hc => good_small (hgf c hc)
  have hfl : f.length = p.length := hf.length_eq
  have tl := txt3_len f hp
  have hap : p.Pairwise apart := hw.imp fun {a b} h => by
    unfold less at h
    unfold apart
    simp at h
    omega
  have haf : f.Pairwise apart := hf.symm.pairwise hap fun {a b} h => by
    unfold apart at *
    omega
  have h7 : (headC ++ txt3 f).length ≤ 65536 := by
    have : headC.length = 7 := rfl
    rw [List.length_append]
    omega
  obtain ⟨v, h1, h2⟩ := parse_w (cf3 f) (headC ++ txt3 f) h7 (by simp [headC]) (fun l hl1 _ _ H => by
    rw [lines_all3] at hl1
    obtain ⟨c, hc, rfl⟩ := List.mem_map.1 (show l ∈ f.map lin3 from hl1)
    rw [cf3_line hp hc]
    exact cell_l (hp c hc) H) H
  have hpr : prs (cf3 f) 1 (linesA [] (headC ++ txt3 f)) [] = .inl f := by
    rw [lines_all3]
    exact prs_3 hp haf (by omega) f [] 2 (by omega) (by omega) rfl
  rw [hpr] at h1
  obtain ⟨a, e, h3, rfl⟩ := h1
  have hlv : liv f = f := by
    unfold liv
    rw [List.filter_eq_self]
    intro c hc
    have := hgf c hc
    unfold good at this
    simp only [Bool.and_eq_true, decide_eq_true_eq] at this
    exact decide_eq_true (by omega)
  rcases h3 with ⟨hb, _⟩ | ⟨_, q, k1, k2, k3⟩
  · rw [bad_good hgf] at hb; cases hb
  · rw [hlv] at k1
    have := asc_eq hw k2 (k1.trans hf)
    subst this
    rcases k3 with ⟨ht, _⟩ | ⟨_, h6, _⟩ | ⟨_, _, rfl, rfl⟩
    · rw [tw_pw hw] at ht; cases ht
    · omega
    · exact h2
end Go.Mx.Tryz
