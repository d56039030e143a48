/- wolfram: numbers, digits. -/
import Derived.Test.YtaomjcmiaiokcaaDoorAv
set_option linter.unusedSimpArgs false
set_option linter.unusedVariables false
set_option linter.unusedSectionVars false
set_option maxRecDepth 100000
namespace Go.Mx.Tryd
open Go.Lib Go.Proofs

/- Rows of numbers that a function makes. -/
def rowsN (f : List Int) : List (List V) := f.map fun x => [.m (.i .i64 x)]
def celN (f : List Int) : List (List I) := f.map fun x => [.i .i64 x]
@[simp] theorem rowsN_len (f : List Int) : (rowsN f).length = f.length := by simp [rowsN]
theorem rowsN_snoc (f : List Int) (x : Int) : rowsN f ++ [[.m (.i .i64 x)]] = rowsN (f ++ [x]) := by simp [rowsN]
theorem optN (n : Nat) (H : Hp) : ∀ f : List Int, optMap (fun e => optMap (view (n + 1) H) e) (rowsN f) = some (celN f)
  | [] => rfl
  | x :: r => by
    show Option.bind (some [I.i .i64 x]) _ = _
    simp only [Option.bind_some]
    have := optN n H r
    show Option.bind (optMap _ (rowsN r)) _ = _
    rw [this]
    rfl
def OutN (f : List Int) (o : V) (H : Hp) : Prop := (f = [] ∧ o = .m (.nl 4) ∧ H = []) ∨ (f ≠ [] ∧ o = .sl 0 f.length 1 0 f.length false ∧ H = [.cs 3 1 (rowsN f) 0 false])
theorem outN_push {f : List Int} {o : V} {H : Hp} (h : OutN f o H) (hl : f.length ≤ 1000000) (x : Int) : ∃ o1 H1, (∀ B, appX ⟨B, H⟩ 3 1 8 o [[.m (.i .i64 x)]] = some (o1, ⟨B, H1⟩)) ∧ noFaV o1 = true ∧ OutN (f ++ [x]) o1 H1 := by
  rcases h with ⟨rfl, rfl, rfl⟩ | ⟨hne, rfl, rfl⟩
  · exact ⟨_, _, fun B => rfl, rfl, .inr ⟨by simp, rfl, rfl⟩⟩
  · have ha := fun B => app_row (M := ⟨B, [.cs 3 1 (rowsN f) 0 false]⟩) (r := 0) (bytes := 8) (xs := [[.m (.i .i64 x)]]) rfl (by simp) (by simp; omega) rfl
    simp only [rowsN_len, List.length_cons, List.length_nil, Nat.zero_add, rowsN_snoc, List.set_cons_zero] at ha
    exact ⟨_, _, ha, rfl, .inr ⟨by simp, by simp, rfl⟩⟩
theorem viewN {n : Nat} {f : List Int} (hn : f.length = n) (k : Nat) : view (k + 2) [.cs 3 1 (rowsN f) 0 false] (.sl 0 n 1 0 n false) = some (.sl (celN f)) := by
  have e : elems [.cs 3 1 (rowsN f) 0 false] (.sl 0 n 1 0 n false) = some (rowsN f) := by
    show gd (Nat.ble 0 n && Nat.beq 1 1) (some (((rowsN f).drop 0).take n)) = _
    rw [List.drop_zero, List.take_of_length_le (by simp; omega)]
    rfl
  unfold view
  simp only [e, Option.bind_some, optN]
theorem outN_view {f : List Int} {o : V} {H : Hp} (h : OutN f o H) : ∃ z, view 20 H o = some z := by
  rcases h with ⟨rfl, rfl, rfl⟩ | ⟨hne, rfl, rfl⟩
  · exact ⟨_, rfl⟩
  · exact ⟨_, viewN rfl 18⟩
theorem outN_no {f : List Int} {o : V} {H : Hp} (h : OutN f o H) : noFaV o = true := by
  rcases h with ⟨_, rfl, _⟩ | ⟨_, rfl, _⟩ <;> rfl

/-- A number without leading zeros. -/
def wOk (t : List Nat) : Bool := !decide (t = []) && (!decide (1 < t.length) || !decide (t.take 1 = [48])) && inS digS t
theorem wOk_in {t : List Nat} (h : wOk t = true) : t ≠ [] ∧ inS digS t = true := by
  unfold wOk at h
  simp only [Bool.and_eq_true, Bool.not_eq_true', decide_eq_false_iff_not] at h
  exact ⟨h.1.1, h.2⟩
theorem wOk_47 {t : List Nat} (h : 47 ∈ t) : wOk t = false := by
  cases hk : wOk t with
  | false => rfl
  | true =>
    have := List.all_eq_true.1 (inS_dig (wOk_in hk).2) 47 h
    cases this
theorem num_no {t : List Nat} (hl : t.length ≤ 100000) (hb : ∀ c, c ∈ t → c < 256) (h : wOk t = false) (H : Hp) : Gives G 29 [.m (.s t)] H (.tu [.m (.i .i64 0), .m (.b false), .m (.b false)]) H := by
  refine gives_pur rfl rfl rfl rfl rfl ?_
  obtain ⟨q, gq, hq⟩ := trim_c cutN_ok t (by omega) hb []
  unfold wOk at h
  cases t with
  | nil => simp (maxSteps := 2000000) (disch := omega) [gd_in, gd_and, wr_i64, gcall_cx]
  | cons a r =>
    have p1 : (0 : Int) < (r.length : Int) + 1 := by omega
    by_cases hr : r = []
    · subst hr
      have hq0 : q ≠ [] := fun e => by
        have := hq.1 e
        rw [show inS digS [a] = true from this] at h
        simp at h
      simp (maxSteps := 2000000) (disch := omega) [gd_in, gd_and, wr_i64, cl gq, hq0, gcall_cx]
    · have hp := List.length_pos_iff.2 hr
      have p2 : (1 : Int) < (r.length : Int) + 1 := by omega
      by_cases ha : a = 48
      · subst ha
        simp (maxSteps := 2000000) (disch := omega) [gd_in, gd_and, wr_i64, p1, p2, gcall_cx]
      · have ha' : ¬ (a : Int) = 48 := by omega
        have hq0 : q ≠ [] := fun e => by
          have := hq.1 e
          rw [show inS digS (a :: r) = true from this] at h
          simp [ha] at h
        simp (maxSteps := 2000000) (disch := omega) [gd_in, gd_and, wr_i64, p1, p2, ha', cl gq, hq0, gcall_cx]
theorem num_ok {t : List Nat} (hl : t.length ≤ 100000) (hb : ∀ c, c ∈ t → c < 256) (h : wOk t = true) : ∃ (x : Int) (ft : Bool), (ft = decide (dval 0 t < 9223372036854775808)) ∧ (ft = true → x = (dval 0 t : Nat)) ∧ ∀ H, Gives G 29 [.m (.s t)] H (.tu [.m (.i .i64 x), .m (.b true), .m (.b ft)]) H := by
  obtain ⟨hne, hin⟩ := wOk_in h
  obtain ⟨q, gq, hq⟩ := trim_c cutN_ok t (by omega) hb []
  have hq0 : q = [] := hq.2 hin
  subst hq0
  have ga := fun H => atoi_g t (by omega) H
  obtain ⟨k1, k2⟩ := atG_pos t hne (inS_dig hin)
  have walk : ∀ (x : Int) (e : I) (ft : Bool), isNil 3 (.m e) = some ft → (∀ H, Gives G 38 [.m (.s t)] H (.tu [.m (.i .i64 x), .m e]) H) → ∀ H, Gives G 29 [.m (.s t)] H (.tu [.m (.i .i64 x), .m (.b true), .m (.b ft)]) H := fun x e ft he ga H => by
    refine gives_pur rfl rfl rfl rfl rfl ?_
    unfold wOk at h
    cases t with
    | nil => exact absurd rfl hne
    | cons a r =>
      have p1 : (0 : Int) < (r.length : Int) + 1 := by omega
      by_cases hr : r = []
      · subst hr
        simp (maxSteps := 2000000) (disch := omega) [gd_in, gd_and, wr_i64, cl gq, cl (ga _), gcall_cx, he]
      · have hp := List.length_pos_iff.2 hr
        have p2 : (1 : Int) < (r.length : Int) + 1 := by omega
        have ha : ¬ (a : Int) = 48 := fun e => by
          have : a = 48 := by omega
          subst this
          simp [hr] at h
        simp (maxSteps := 2000000) (disch := omega) [gd_in, gd_and, wr_i64, p1, p2, ha, cl gq, cl (ga _), gcall_cx, he]
  by_cases hd : dval 0 t < 9223372036854775808
  · have := k1 hd
    rw [this] at ga
    exact ⟨_, true, by simp [hd], fun _ => rfl, walk _ _ true rfl ga⟩
  · obtain ⟨e1, x, e2⟩ := k2 hd
    rw [e1, e2] at ga
    exact ⟨x, false, by simp [hd], (fun h => by cases h), walk _ _ false rfl ga⟩
end Go.Mx.Tryd
