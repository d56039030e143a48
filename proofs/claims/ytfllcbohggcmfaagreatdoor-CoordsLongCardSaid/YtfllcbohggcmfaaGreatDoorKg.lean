/- coords.Parse at the machine, whole, given what coords.cell does to its lines. -/
import Derived.Test.YtfllcbohggcmfaaGreatDoorKf
set_option linter.unusedSimpArgs false
set_option linter.unusedVariables false
set_option linter.unusedSectionVars false
set_option maxRecDepth 100000
namespace Go.Mx.Tryz
open Go.Lib

def FromR (f : List Ce) (a : I) (e : Int) : Prop := (bad f = some e ∧ a = .nl 4) ∨ (bad f = none ∧ ∃ q, q.Perm (liv f) ∧ Asc q ∧ ((tw q = true ∧ a = .nl 4 ∧ e = 8) ∨ (tw q = false ∧ 5000 < q.length ∧ a = .nl 4 ∧ e = 6) ∨ (tw q = false ∧ q.length ≤ 5000 ∧ a = zP q ∧ e = 0)))
theorem from_r {v : I} {f : List Ce} (hv : IsSl v (cells3 f)) (hl : f.length ≤ 1000000) (H : Hp) : ∃ a e, FromR f a e ∧ Gives G 21 [.m v] H (.tu [.m a, .m (.i .i64 e)]) H := by
 rcases from_w hv hl H with ⟨e, hb, hg⟩ | ⟨hb, q, h1, h2, hg⟩
 ·exact ⟨_, e, .inl ⟨hb, rfl⟩, hg⟩
 ·unfold resP at hg
  by_cases ht : tw q = true
  ·rw [if_pos ht] at hg
   exact ⟨_, _, .inr ⟨hb, q, h1, h2, .inl ⟨ht, rfl, rfl⟩⟩, hg⟩
  ·rw [if_neg ht] at hg
   rw [Bool.not_eq_true] at ht
   by_cases h5 : 5000 < q.length
   ·rw [if_pos h5] at hg
    exact ⟨_, _, .inr ⟨hb, q, h1, h2, .inr (.inl ⟨ht, h5, rfl, rfl⟩)⟩, hg⟩
   ·rw [if_neg h5] at hg
    exact ⟨_, _, .inr ⟨hb, q, h1, h2, .inr (.inr ⟨ht, by omega, rfl, rfl⟩)⟩, hg⟩
theorem from_o {f : List Ce} {o : V} {H : Hp} (h : OutK f o H) (hl : f.length ≤ 1000000) : ∃ a e H2, FromR f a e ∧ Gives G 21 [o] H (.tu [.m a, .m (.i .i64 e)]) H2 ∧ (∀ i, i < 8 → nth H2 i = nth H i) := by
 rcases h with ⟨rfl, rfl⟩ | ⟨hne, r, hr, rfl, h3⟩
 ·obtain ⟨a, e, h1, h2⟩ := from_r (v := .nl 4) (f := []) isSl_nil (by simp) H
  exact ⟨a, e, H, h1, h2, fun _ _ => rfl⟩
 ·obtain ⟨a, e, h1, h2⟩ := from_r (v := .sl (cells3 f)) (f := f) (isSl_sl _) hl []
  have hv := viewPg h3 (Nat.zero_le _) 18
  have hvs : optMap (view 20 H) [V.sl r f.length 3 0 f.length false] = some [.sl (cells3 f)] := by
   simp only [optMap, hv, Option.bind_some]
  cases hfl : flatV (.tu [.m a, .m (.i .i64 e)]) with
  | true => exact ⟨a, e, H, h1, gives_view (is := [.sl (cells3 f)]) rfl rfl h2 hvs (.inr ⟨by simp [refs, ref1], hfl⟩), fun _ _ => rfl⟩
  | false =>
   have hfz : freeze ([V.sl r f.length 3 0 f.length false].flatMap refs) H = some (H.set r (.cs 40 3 (rows3 f) 0 true)) := by
    show Option.bind (nth H r) _ = _
    rw [h3]
    show Option.bind (gd ((rows3 f).all fun e => e.all isM) (some (Row.cs 40 3 (rows3 f) 0 true))) _ = _
    rw [rows3_isM]
    show Option.bind (setEl H r _) _ = _
    rw [setEl_put _ _ _ (nl_lt h3)]
    rfl
   exact ⟨a, e, _, h1, gives_view_fr (is := [.sl (cells3 f)]) rfl rfl h2 hvs (by simp [refs, ref1]) hfl rfl hfz, fun i hi => nl_set_ne (by omega)⟩

def prs (cf : List Nat → Ce × Int) : Int → List (List Nat) → List Ce → List Ce ⊕ (Int × Int)
 | _, [], f => .inl f
 | n, l :: r, f => match step cf n l f with
  | .go f' => prs cf (n + 1) r f'
  | .er e => .inr (n, e)
def ParR (s : List Nat) (r : List Ce ⊕ (Int × Int)) (v : V) : Prop := match r with
 | .inl f => ∃ a e, FromR f a e ∧ v = .tu [.m a, .m (.i .i64 0), .m (.i .i64 e)]
 | .inr p => v = .tu [.m (.nl 4), .m (.i .i64 p.1), .m (.i .i64 p.2)]

set_option maxHeartbeats 2000000 in
theorem parse_w (cf : List Nat → Ce × Int) (s : List Nat) (hl : s.length ≤ 65536) (h0 : s ≠ []) (hcell : ∀ l, l ∈ (linesA [] s).drop 1 → l ≠ [] → l.take 1 ≠ [35] → ∀ H, Gives G 20 [.m (.s l)] H (cellV (cf l)) H) (H : Hp) :
  ∃ v, ParR s (prs cf 1 (linesA [] s) []) v ∧ Gives G 10 [.m (.s s)] H v H := by
 have key : ∃ v H', Gives G 10 [.m (.s s)] H v H' ∧ (H' = H ∧ ParR s (prs cf 1 (linesA [] s) []) v) := by
  refine gives_of_ret ?_
  refine ret_pur rfl rfl rfl rfl rfl ?_
  have hl6 : ¬ (65536 : Int) < s.length := by omega
  have gs := fun H => lines_s s H
  simp (maxSteps := 2000000) (disch := omega) [gd_in, gd_and, wr_i64, hl6, h0, cl (gs _)]
  refine lines_w 7 6 (fun n t H' => n + t.length ≤ s.length + 1 ∧ 1 ≤ n ∧ 8 ≤ H'.length ∧ (∃ b, b ≤ 1 ∧ nth H' 6 = some (strR t b)) ∧ nth H' 7 = some (lpP 0 none) ∧ ∃ f, f.length ≤ n ∧ Pst f H' ∧ prs cf 1 (linesA [] s) [] = prs cf n (linesA [] t) f ∧ (∀ l, l ∈ linesA [] t → n ≠ 1 → l ∈ (linesA [] s).drop 1) ∧ (n = 1 → linesA [] t = linesA [] s)) _ ?_ ?_ ?_ s _ ?_
  ·rintro n t H' ⟨k1, k2, k3, k4, k5, k6⟩
   exact ⟨by omega, k4⟩
  ·rintro n t H' ht ⟨k1, k2, k3, ⟨b, hb, k4⟩, k5, f, hf, hP, hq, hm, hone⟩
   have hlen : (hdB 10 t).length ≤ t.length := by
    cases hq : tlB 10 t with
    | none => rw [tlB_none 10 t hq]; omega
    | some u => have := tlB_len hq; omega
   have hlen2 : ((tlB 10 t).getD []).length + 1 ≤ t.length := by
    cases hq : tlB 10 t with
    | none => have := List.length_pos_iff.2 ht; simp; omega
    | some u => have := tlB_len hq; simp; omega
   have hld := lines_hd ht
   refine retm (round_p hP k3 k5 cf n (hdB 10 t) (by omega) (by omega) fun hn1 hne h35 => hcell _ (hm _ (by rw [hld]; simp) (by omega)) hne h35) fun v H2 hq2 => ?_
   rw [hld] at hq
   have e2 : prs cf n (hdB 10 t :: linesA [] ((tlB 10 t).getD [])) f = match step cf n (hdB 10 t) f with | .go f' => prs cf (n + 1) (linesA [] ((tlB 10 t).getD [])) f' | .er e => .inr ((n : Int), e) := rfl
   rw [e2] at hq
   have hfl : ∀ f', step cf n (hdB 10 t) f = .go f' → f'.length ≤ f.length + 1 := fun f' h => by
    unfold step at h
    split at h
    ·split at h
     ·cases h; omega
     ·cases h
    ·split at h
     ·cases h; omega
     ·split at h
      ·cases h
      ·split at h
       ·cases h
       ·split at h
        ·cases h
        ·cases h; simp
   cases hst : step cf n (hdB 10 t) f with
   | go f' =>
    rw [hst] at hq2 hq
    obtain ⟨rfl, hP2, h6, h7, h8⟩ := hq2
    have hf' := hfl f' hst
    have r6 : nth H2 6 = some (strR t b) := by rw [h6]; exact k4
    refine .inr ⟨rfl, ⟨t, b, r6⟩, by omega, by omega, by simpa using h8, ⟨1, Nat.le_refl _, nl_set_eq (by omega)⟩, by rw [nl_set_ne (by omega)]; exact h7, f', by omega, hP2.set (by omega) (by omega) _, ?_, fun l hl _ => ?_, fun h => by omega⟩
    ·rw [hq]; rfl
    ·by_cases h1 : n = 1
     ·rw [← hone h1, hld]; simpa using hl
     ·exact hm l (by rw [hld]; simp [hl]) h1
   | er e =>
    rw [hst] at hq2 hq
    obtain ⟨rfl, g0, g1, g2, g7⟩ := hq2
    refine .inl ⟨rfl, ?_⟩
    have e3 : endLp 7 H2 = some (.ret, H2.set 7 (lpP 3 (some none))) := by
     unfold endLp
     rw [g7]
     show Option.bind (setEl _ _ _) _ = _
     rw [setEl_put _ _ _ (nl_lt g7)]
     rfl
    have m0 : nth (H2.set 7 (lpP 3 (some none))) 0 = some (patR 1) := by rw [nl_set_ne (by omega)]; exact g0
    have m1 : nth (H2.set 7 (lpP 3 (some none))) 1 = some (intR n 1) := by rw [nl_set_ne (by omega)]; exact g1
    have m2 : nth (H2.set 7 (lpP 3 (some none))) 2 = some (errR e 1) := by rw [nl_set_ne (by omega)]; exact g2
    simp [e3, m0, m1, m2, hq, ParR]
  ·rintro n H' ⟨k1, k2, k3, ⟨b, hb, k4⟩, k5, f, hf, hP, hq, hm, hone⟩
   have hq : prs cf 1 (linesA [] s) [] = .inl f := hq
   have e3 : endLp 7 H' = some (.nm, H'.set 7 (lpP 3 none)) := by
    unfold endLp
    rw [k5]
    show Option.bind (setEl _ _ _) _ = _
    rw [setEl_put _ _ _ (nl_lt k5)]
    rfl
   have hP2 := hP.set (i := 7) (by omega) (by omega) (lpP 3 none)
   have h8 : 8 ≤ (H'.set 7 (lpP 3 none)).length := by simpa using k3
   generalize H'.set 7 (lpP 3 none) = H1 at *
   obtain ⟨⟨b0, a0, k0⟩, ⟨b1, a1, k1'⟩, ⟨b2, a2, k2'⟩, k3', ⟨b4, a4, k4'⟩, ⟨o, b5, a5, k5', k6⟩⟩ := hP2
   obtain ⟨a, e, H2, hR, gf, hk⟩ := from_o k6 (by omega)
   have h28 : nth H2 0 = some (patR b0) := by rw [hk 0 (by omega)]; exact k0
   have h21 : nth H2 1 = some (intR 0 b1) := by rw [hk 1 (by omega)]; exact k1'
   have h22 : nth H2 2 = some (errR 0 b2) := by rw [hk 2 (by omega)]; exact k2'
   have hone' : oneV (.m a) = true ∧ cellsV (.m a) = some [.m a] := by
    rcases hR with ⟨_, rfl⟩ | ⟨_, q, _, _, ⟨_, rfl, _⟩ | ⟨_, _, rfl, _⟩ | ⟨_, _, rfl, _⟩⟩
    ·exact ⟨rfl, rfl⟩
    ·exact ⟨rfl, rfl⟩
    ·exact ⟨rfl, rfl⟩
    ·unfold zP; split <;> exact ⟨rfl, rfl⟩
   have l0 := nl_lt h28
   have l1 := nl_lt h21
   have l2 := nl_lt h22
   have s0 : setEl H2 0 (.cs 24 1 [[.m a]] 1 false) = some (H2.set 0 (.cs 24 1 [[.m a]] 1 false)) := setEl_put _ _ _ l0
   have t1 : nth (H2.set 0 (.cs 24 1 [[.m a]] 1 false)) 1 = some (intR 0 b1) := by rw [nl_set_ne (by omega)]; exact h21
   have s1 : setEl (H2.set 0 (.cs 24 1 [[.m a]] 1 false)) 1 (intR 0 1) = some ((H2.set 0 (.cs 24 1 [[.m a]] 1 false)).set 1 (intR 0 1)) := setEl_put _ _ _ (by simpa using l1)
   have t2 : nth ((H2.set 0 (.cs 24 1 [[.m a]] 1 false)).set 1 (intR 0 1)) 2 = some (errR 0 b2) := by rw [nl_set_ne (by omega), nl_set_ne (by omega)]; exact h22
   have s2 : setEl ((H2.set 0 (.cs 24 1 [[.m a]] 1 false)).set 1 (intR 0 1)) 2 (errR e 1) = some (((H2.set 0 (.cs 24 1 [[.m a]] 1 false)).set 1 (intR 0 1)).set 2 (errR e 1)) := setEl_put _ _ _ (by simpa using l2)
   have u0 : nth (((H2.set 0 (.cs 24 1 [[.m a]] 1 false)).set 1 (intR 0 1)).set 2 (errR e 1)) 0 = some (.cs 24 1 [[.m a]] 1 false) := by rw [nl_set_ne (by omega), nl_set_ne (by omega), nl_set_eq l0]
   have u1 : nth (((H2.set 0 (.cs 24 1 [[.m a]] 1 false)).set 1 (intR 0 1)).set 2 (errR e 1)) 1 = some (intR 0 1) := by rw [nl_set_ne (by omega), nl_set_eq (by simpa using l1)]
   have u2 : nth (((H2.set 0 (.cs 24 1 [[.m a]] 1 false)).set 1 (intR 0 1)).set 2 (errR e 1)) 2 = some (errR e 1) := nl_set_eq (by simpa using l2)
   simp (maxSteps := 2000000) (disch := omega) [gd_in, gd_and, wr_i64, e3, k5', a5, cl gf, hone'.1, hone'.2, h28, a0, s0, t1, a1, s1, t2, a2, s2, u0, u1, u2]
   unfold ParR
   rw [hq]
   exact ⟨a, e, hR, rfl⟩
  ·exact ⟨by omega, Nat.le_refl _, by simp, ⟨0, by omega, rfl⟩, rfl, [], by simp, ⟨⟨0, by omega, rfl⟩, ⟨0, by omega, rfl⟩, ⟨0, by omega, rfl⟩, rfl, ⟨1, by omega, rfl⟩, ⟨_, 0, by omega, rfl, .inl ⟨rfl, rfl⟩⟩⟩, rfl, fun l _ h => absurd rfl h, fun _ => rfl⟩
 obtain ⟨v, H', h1, rfl, h2⟩ := key
 exact ⟨v, h2, h1⟩
end Go.Mx.Tryz
