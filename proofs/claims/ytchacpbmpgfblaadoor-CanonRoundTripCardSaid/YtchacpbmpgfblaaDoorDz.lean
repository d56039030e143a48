/- Code of both texts; which texts are codes; Decode of the reference. -/
import Derived.Test.YtchacpbmpgfblaaDoorDx
import Derived.Test.YtchacpbmpgfblaaDoorSpl
set_option linter.unusedSimpArgs false
set_option linter.unusedVariables false
set_option linter.unusedSectionVars false
set_option maxRecDepth 100000
namespace Go.Mx.Tryd
open Go.Sort Go.Lib Go.Proofs

def letS : List Nat := [46, 65, 66, 67, 68, 69, 70, 71, 36]
theorem ixB_let : ∀ c : Nat, c < 256 → ixB letS c 0 = (lix c).getD (-1) := by
  have h : ∀ c : Fin 256, ixB letS c.1 0 = (lix c.1).getD (-1) := by decide +kernel
  exact fun c hc => h ⟨c, hc⟩
theorem sib_s (c : Nat) (hc : c < 256) (H : Hp) : Gives G 55 [.m (.s [46, 65, 66, 67, 68, 69, 70, 71, 36]), .m (.i .u8 (c : Int))] H (.m (.i .i64 ((lix c).getD (-1)))) H := by
  have g := fun H => ib_s [46, 65, 66, 67, 68, 69, 70, 71, 36] c hc H
  have e : ixB [46, 65, 66, 67, 68, 69, 70, 71, 36] c 0 = (lix c).getD (-1) := ixB_let c hc
  rw [e] at g
  refine gives_pur rfl rfl rfl rfl rfl ?_
  simp (maxSteps := 2000000) (disch := omega) [gd_in, gd_and, wr_i64, cl (g _)]
theorem lix_bnd {c : Nat} {k : Int} (h : lix c = some k) : 0 ≤ k ∧ k ≤ 8 := by
  unfold lix at h
  split at h
  · cases h; decide
  · split at h
    · cases h; decide
    · split at h
      · cases h; omega
      · cases h
theorem fit_len {f : List Ce} {x y k : Int} {m : Nat} : (f ++ cellsN x y k m).length = f.length + m := by rw [List.length_append, cellsN_len]
set_option maxHeartbeats 2000000 in
theorem fill_s (s : V) (x y k : Int) (m : Nat) (f0 : List Ce) (ln ix : V) (K : K) (hx : 0 ≤ x ∧ x ≤ 4194304) (hk : 0 ≤ k ∧ k ≤ 8) (hm : m ≤ 10000000) (hfm : 0 < k → f0.length + m ≤ 5000)
    (hend : ∀ (x12 o : V) (B : List (Nat × List V)) (H : Hp), OutP (if k = 0 then f0 else f0 ++ cellsN x y k m) o H → At' G (.ex 3) ⟨[(0, s), (4, o), (5, .m (.i .i64 x)), (6, .m (.i .i64 y)), (7, .m (.i .i64 (m : Int))), (11, .m (.i .i64 k)), (12, x12), (14, ln), (15, ix), (49, .m (.b false))], [], ⟨B, H⟩⟩ K) :
    ∀ (j : Nat) (o : V) (B : List (Nat × List V)) (H : Hp), j ≤ m → (k = 0 → j = 0) → OutP (f0 ++ (if k = 0 then [] else cellsN x y k j)) o H → Run G c29_B0 (S29_0 s o (.m (.i .i64 x)) (.m (.i .i64 y)) (.m (.i .i64 (m : Int))) (.m (.i .i64 k)) (.m (.i .i64 (j : Int))) ln ix B H) (.seq c29_L0 K) := by
  refine indM (fun j : Nat => m - j) fun j ih o B H hj hk0 ho => ?_
  unfold c29_B0
  by_cases h0 : k = 0
  · subst h0
    have := hk0 rfl
    subst this
    have k1 := hend (.m (.i .i64 0)) o B H (by simpa using ho)
    simp (maxSteps := 2000000) (disch := omega) [gd_in, gd_and, wr_i64, ]
    exact k1
  · rw [if_neg h0] at ho
    have hkp : 0 < k := by omega
    have hf := hfm hkp
    obtain ⟨hvw, hnf⟩ := outP_view ho
    by_cases hjm : j < m
    · have hjm' : (j : Int) < m := by omega
      have w1 : wr .i64 ((j : Int) + 1) = ((j + 1 : Nat) : Int) := wr_i64 (by omega) (by omega)
      have w2 : wr .i64 (x + (j : Int)) = x + j := wr_i64 (by omega) (by omega)
      obtain ⟨o1, H1, ha, hn1, ho1⟩ := outP_push ho (by rw [fit_len]; omega) ⟨x + j, y, k⟩
      dsimp only at ha
      have k1 := ih (j + 1) (by omega) o1 B H1 (by omega) (fun h => absurd h h0) (by rw [if_neg h0]; rw [List.append_assoc] at ho1; exact ho1)
      simp (maxSteps := 2000000) (disch := omega) [gd_in, gd_and, wr_i64, hkp, hjm, hjm', w1, w2, ha, setC_v hn1, setC_v hnf, -Int.natCast_add]
      exact k1
    · have : j = m := by omega
      subst this
      have k1 := hend (.m (.i .i64 (j : Int))) o B H (by rw [if_neg h0]; exact ho)
      simp (maxSteps := 2000000) (disch := omega) [gd_in, gd_and, wr_i64, hkp]
      exact k1
theorem outP_ln {f : List Ce} {o : V} {H : Hp} (h : OutP f o H) : pureX (.len false) [o] = some (.m (.i .i64 (f.length : Nat))) := by
  rcases h with ⟨rfl, rfl, rfl⟩ | ⟨_, rfl, _⟩ <;> rfl
theorem outP_v2 {f : List Ce} {o : V} {H : Hp} (h : OutP f o H) : view 20 H o = some (zP f) := by
  rcases h with ⟨rfl, rfl, rfl⟩ | ⟨hne, rfl, rfl⟩
  · rfl
  · have := viewP (r := 0) (b := 0) (X := []) (A := []) (q := f) (n := f.length) rfl (Nat.zero_le _) 18
    rw [this]
    unfold zP
    rw [if_neg hne]
def CellsQ (s : List Nat) (x : V) (H' : Hp) : Prop := H' = [] ∧ ∃ w, (∀ l, parA ⟨0, 0, []⟩ 0 0 s = some l → w = zP l) ∧ x = .tu [.m w, .m (.b (parA ⟨0, 0, []⟩ 0 0 s).isSome)]
theorem cellsQ_no {s : List Nat} {H' : Hp} (h : parA ⟨0, 0, []⟩ 0 0 s = none) (w : I) (hH : H' = []) : CellsQ s (.tu [.m w, .m (.b false)]) H' := ⟨hH, w, fun l hl => (by rw [h] at hl; cases hl), by rw [h]; rfl⟩
theorem cellsQ_ok {s : List Nat} {H' : Hp} {l : List Ce} (h : parA ⟨0, 0, []⟩ 0 0 s = some l) (hH : H' = []) : CellsQ s (.tu [.m (zP l), .m (.b true)]) H' := ⟨hH, zP l, fun l' hl => (by rw [h] at hl; cases hl; rfl), by rw [h]; rfl⟩
set_option maxHeartbeats 4000000 in
theorem cells_s (s : List Nat) (hb : ∀ c, c ∈ s → c < 256) (hl : s.length ≤ 1000000) (H : Hp) :
    ∃ w, (∀ l, parA ⟨0, 0, []⟩ 0 0 s = some l → w = zP l) ∧ Gives G 29 [.m (.s s)] H (.tu [.m w, .m (.b (parA ⟨0, 0, []⟩ 0 0 s).isSome)]) H := by
  have key : ∃ x H', Gives G 29 [.m (.s s)] H x H' ∧ (H' = H ∧ CellsQ s x []) := by
    refine gives_of_ret ?_
    refine ret_pur rfl rfl rfl rfl rfl ?_
    generalize hQ : (fun (x : V) (H' : Hp) => H' = H ∧ CellsQ s x []) = Q
    have qno : parA ⟨0, 0, []⟩ 0 0 s = none → ∀ w : I, Q (.tu [.m w, .m (.b false)]) H := fun h w => by rw [← hQ]; exact ⟨rfl, cellsQ_no h w rfl⟩
    have qok : ∀ l, parA ⟨0, 0, []⟩ 0 0 s = some l → Q (.tu [.m (zP l), .m (.b true)]) H := fun l h => by rw [← hQ]; exact ⟨rfl, cellsQ_ok h rfl⟩
    clear hQ
    simp (maxSteps := 2000000) (disch := omega) [gd_in, gd_and, wr_i64, ]
    refine (?key : ∀ (i : Nat) (x y : Int) (f : List Ce) (n d : Nat) (o : V) (B : List (Nat × List V)) (H1 : Hp), i ≤ s.length → OutP f o H1 → parA ⟨0, 0, []⟩ 0 0 s = parA ⟨x, y, f⟩ n d (s.drop i) → (0 ≤ x ∧ x ≤ 4194304) → (0 ≤ y ∧ y ≤ 4194304) → f.length ≤ 5000 → d ≤ 7 → n < 10 ^ d → Run G c29_B1 (S29_1 (.m (.s s)) o (.m (.i .i64 x)) (.m (.i .i64 y)) (.m (.i .i64 (n : Int))) (.m (.i .i64 (d : Int))) (.m (.i .i64 s.length)) (.m (.i .i64 (i : Int))) B H1) _) 0 0 0 [] 0 0 _ _ _ (Nat.zero_le _) (.inl ⟨rfl, rfl, rfl⟩) rfl (by omega) (by omega) (by simp) (by omega) (by decide)
    refine indM (fun i : Nat => s.length - i) fun i ih x y f n d o B H1 hi ho hp hx hy hf hd hn => ?_
    have hvw := outP_v2 ho
    have hnf := (outP_view ho).2
    unfold c29_B1
    cases hc : s[i]? with
    | none =>
      have : i = s.length := by have := List.getElem?_eq_none_iff.1 hc; omega
      subst this
      rw [List.drop_length] at hp
      by_cases hd0 : d = 0
      · have e : parA ⟨x, y, f⟩ n d [] = some f := by show (if d = 0 then some f else none) = _; rw [if_pos hd0]
        have k := qok f (hp.trans e)
        simp (maxSteps := 2000000) (disch := omega) [gd_in, gd_and, wr_i64, hd0, setC_v hnf, hvw]
        exact ⟨hnf, k⟩
      · have e : parA ⟨x, y, f⟩ n d [] = none := by show (if d = 0 then some f else none) = _; rw [if_neg hd0]
        have k := qno (hp.trans e) (zP f)
        simp (maxSteps := 2000000) (disch := omega) [gd_in, gd_and, wr_i64, hd0, setC_v hnf, hvw]
        exact ⟨hnf, k⟩
    | some c =>
      have hlt := (get_drop hc).1
      have hlt' : (i : Int) < s.length := by omega
      have hnn : nth s i = some c := by rw [nth_get]; exact hc
      have hc256 := hb c (List.mem_of_getElem? hc)
      have wi : wr .i64 ((i : Int) + 1) = ((i + 1 : Nat) : Int) := wr_i64 (by omega) (by omega)
      have hpow : 10 ^ d ≤ 10 ^ 7 := Nat.pow_le_pow_right (by decide) hd
      have hn7 : n < 10000000 := Nat.lt_of_lt_of_le hn hpow
      rw [(get_drop hc).2] at hp
      by_cases hdg : isDg c
      · have hp2 : parA ⟨x, y, f⟩ n d (c :: s.drop (i + 1)) = if 7 < d + 1 then none else parA ⟨x, y, f⟩ (10 * n + (c - 48)) (d + 1) (s.drop (i + 1)) := by
          show (if isDg c then _ else _) = _
          rw [if_pos hdg]
        rw [hp2] at hp
        obtain ⟨c1, c2⟩ := hdg
        have c1' : (48 : Int) ≤ c := by omega
        have c2' : (c : Int) ≤ 57 := by omega
        have w8 : wr .u8 ((c : Int) - 48) = (c : Int) - 48 := wr_u8 (by omega) (by omega)
        have w9 : wr .i64 ((c : Int) - 48) = (c : Int) - 48 := wr_i64 (by omega) (by omega)
        have w10 : wr .i64 (10 * (n : Int)) = 10 * (n : Int) := wr_i64 (by omega) (by omega)
        obtain ⟨m, hm⟩ : ∃ m, m = 10 * n + (c - 48) := ⟨_, rfl⟩
        have w11 : wr .i64 (10 * (n : Int) + ((c : Int) - 48)) = (m : Int) := by rw [wr_i64 (by omega) (by omega)]; omega
        obtain ⟨d1, hd1⟩ : ∃ d1, d1 = d + 1 := ⟨_, rfl⟩
        have w12 : wr .i64 ((d : Int) + 1) = (d1 : Int) := by rw [wr_i64 (by omega) (by omega)]; omega
        rw [← hm, ← hd1] at hp
        by_cases h7 : 7 < d1
        · have h7' : (7 : Int) < d1 := by omega
          rw [if_pos h7] at hp
          have k := qno hp (.nl 4)
          simp (maxSteps := 2000000) (disch := omega) [gd_in, gd_and, wr_i64, hlt, hlt', hnn, c1, c2, c1', c2', w8, w9, w10, w11, w12, h7, h7', setC_v hnf]
          exact k
        · have h7' : ¬ (7 : Int) < d1 := by omega
          rw [if_neg h7] at hp
          have hm2 : m < 10 ^ d1 := by
            rw [hd1, Nat.pow_succ, hm]
            have : c - 48 ≤ 9 := by omega
            omega
          have k := ih (i + 1) (by omega) x y f m d1 o B H1 (by omega) ho hp hx hy hf (by omega) hm2
          simp (maxSteps := 2000000) (disch := omega) [gd_in, gd_and, wr_i64, hlt, hlt', hnn, c1, c2, c1', c2', w8, w9, w10, w11, w12, h7, h7', wi, setC_v hnf, -Int.natCast_add]
          exact k
      · have hp2 : parA ⟨x, y, f⟩ n d (c :: s.drop (i + 1)) = match lix c with
            | none => none
            | some k => if 0 < k ∧ k < 8 ∧ 5000 < f.length + (if d = 0 then 1 else n) then none
              else if 4194304 < max (act ⟨x, y, f⟩ (if d = 0 then 1 else n : Nat) k).x (act ⟨x, y, f⟩ (if d = 0 then 1 else n : Nat) k).y then none else parA (act ⟨x, y, f⟩ (if d = 0 then 1 else n : Nat) k) 0 0 (s.drop (i + 1)) := by
          show (if isDg c then _ else _) = _
          rw [if_neg hdg]
          rfl
        rw [hp2] at hp
        have gx := fun H => sib_s c hc256 H
        have tdg : ((decide ((48 : Int) ≤ c) = true) → decide ((c : Int) ≤ 57) = false) := fun h => by
          have h1 := of_decide_eq_true h
          exact decide_eq_false fun h2 => hdg ⟨by omega, by omega⟩
        have hcase : (¬ 48 ≤ c) ∨ (48 ≤ c ∧ ¬ c ≤ 57) := by
          by_cases h : 48 ≤ c
          · exact .inr ⟨h, fun h2 => hdg ⟨h, h2⟩⟩
          · exact .inl h
        cases hk : lix c with
        | none =>
          rw [hk] at hp gx
          have k := qno hp (.nl 4)
          rcases hcase with h1 | ⟨h1, h2⟩
          · have h1' : ¬ (48 : Int) ≤ c := by omega
            simp (maxSteps := 2000000) (disch := omega) [gd_in, gd_and, wr_i64, hlt, hlt', hnn, h1, h1', cl (gx _), setC_v hnf]
            exact k
          · have h1' : (48 : Int) ≤ c := by omega
            have h2' : ¬ (c : Int) ≤ 57 := by omega
            simp (maxSteps := 2000000) (disch := omega) [gd_in, gd_and, wr_i64, hlt, hlt', hnn, h1, h1', h2, h2', cl (gx _), setC_v hnf]
            exact k
        | some k =>
          rw [hk] at hp gx
          have hkb := lix_bnd hk
          have hk0 : ¬ k < 0 := by omega
          have gx2 : ∀ H, Gives G 55 [.m (.s [46, 65, 66, 67, 68, 69, 70, 71, 36]), .m (.i .u8 (c : Int))] H (.m (.i .i64 k)) H := gx
          have hol := outP_ln ho
          have wz : ∀ m : Nat, m < 10000000 → wr .i64 ((f.length : Int) + (m : Int)) = ((f.length + m : Nat) : Int) ∧ wr .i64 (y + (m : Int)) = y + m ∧ wr .i64 (x + (m : Int)) = x + m := fun m hm => ⟨wr_i64 (by omega) (by omega), wr_i64 (by omega) (by omega), wr_i64 (by omega) (by omega)⟩
          rcases hcase with h1 | ⟨h1, h2⟩
          · have h1' : ¬ (48 : Int) ≤ c := by omega
            by_cases hd0 : d = 0
            · have hd0' : (d : Int) = 0 := by omega
              simp only [if_pos hd0] at hp
              obtain ⟨z1, z2, z3⟩ := wz 1 (by omega)
              simp only [show ((1 : Nat) : Int) = 1 from rfl] at z1 z2 z3 hp
              by_cases k8 : k = 8
              · subst k8
                rw [if_neg (by omega)] at hp
                have ea : act ⟨x, y, f⟩ 1 8 = ⟨0, y + 1, f⟩ := rfl
                rw [ea] at hp
                dsimp only at hp
                by_cases ht : 4194304 < max 0 (y + 1)
                · rw [if_pos ht] at hp
                  have k := qno hp (.nl 4)
                  simp (maxSteps := 2000000) (disch := omega) [gd_in, gd_and, wr_i64, hlt, hlt', hnn, h1, h1', cl (gx2 _), hk0, hd0, hd0', z1, z2, z3, wi, hol, setC_v hnf, ht, -Int.natCast_add]
                  exact k
                · rw [if_neg ht] at hp
                  have k := ih (i + 1) (by omega) 0 (y + 1) f 0 0 o B H1 (by omega) ho hp (by omega) (by omega) hf (by omega) (by decide)
                  simp (maxSteps := 2000000) (disch := omega) [gd_in, gd_and, wr_i64, hlt, hlt', hnn, h1, h1', cl (gx2 _), hk0, hd0, hd0', z1, z2, z3, wi, hol, setC_v hnf, ht, -Int.natCast_add]
                  exact k
              · have hkp8 : k < 8 := by omega
                have ea : act ⟨x, y, f⟩ 1 k = ⟨x + 1, y, if k = 0 then f else f ++ cellsN x y k 1⟩ := by unfold act; rw [if_neg k8]; rfl
                by_cases hbig : 0 < k ∧ k < 8 ∧ 5000 < f.length + 1
                · rw [if_pos hbig] at hp
                  have k := qno hp (.nl 4)
                  obtain ⟨hb1, _, hb2⟩ := hbig
                  have hb2' : (5000 : Int) < ((f.length + 1 : Nat) : Int) := by omega
                  simp (maxSteps := 2000000) (disch := omega) [gd_in, gd_and, wr_i64, hlt, hlt', hnn, h1, h1', cl (gx2 _), hk0, hd0, hd0', z1, z2, z3, wi, hol, setC_v hnf, k8, hb1, hb2, hb2', -Int.natCast_add]
                  exact k
                · rw [if_neg hbig, ea] at hp
                  dsimp only at hp
                  have hfm : 0 < k → f.length + 1 ≤ 5000 := fun h => by have := fun h3 => hbig ⟨h, hkp8, h3⟩; omega
                  have fin : ∀ (o2 : V) (B : List (Nat × List V)) (H2 : Hp), OutP (if k = 0 then f else f ++ cellsN x y k 1) o2 H2 → noFaV o2 = true := fun o2 B H2 h => (outP_view h).2
                  have hf2 : (if k = 0 then f else f ++ cellsN x y k 1).length ≤ 5000 := by
                    split
                    · exact hf
                    · rw [fit_len]; exact hfm (by omega)
                  by_cases hkz : 0 < k
                  · have hb2' : ¬ (5000 : Int) < ((f.length + 1 : Nat) : Int) := by have := hfm hkz; omega
                    have hb2 : ¬ 5000 < f.length + 1 := by have := hfm hkz; omega
                    simp (maxSteps := 2000000) (disch := omega) [gd_in, gd_and, wr_i64, hlt, hlt', hnn, h1, h1', cl (gx2 _), hk0, hd0, hd0', z1, z2, z3, wi, hol, setC_v hnf, k8, hkz, hb2, hb2', -Int.natCast_add]
                    refine fill_s _ x y k 1 f _ _ _ hx (by omega) (by omega) hfm (fun x12 o2 B2 H2 ho2 => ?_) 0 o B H1 (Nat.zero_le _) (fun _ => rfl) (by split <;> (simp only [cellsN, List.append_nil]; exact ho))
                    have hn2 := fin o2 B2 H2 ho2
                    by_cases ht : 4194304 < max (x + 1) y
                    · rw [if_pos ht] at hp
                      have k := qno hp (.nl 4)
                      simp (maxSteps := 2000000) (disch := omega) [gd_in, gd_and, wr_i64, z3, ht, setC_v hn2]
                      exact k
                    · rw [if_neg ht] at hp
                      have k := ih (i + 1) (by omega) (x + 1) y _ 0 0 o2 B2 H2 (by omega) ho2 hp (by omega) (by omega) hf2 (by omega) (by decide)
                      simp (maxSteps := 2000000) (disch := omega) [gd_in, gd_and, wr_i64, z3, ht, wi, setC_v hn2, -Int.natCast_add]
                      exact k
                  · have hkz2 : k = 0 := by omega
                    simp (maxSteps := 2000000) (disch := omega) [gd_in, gd_and, wr_i64, hlt, hlt', hnn, h1, h1', cl (gx2 _), hk0, hd0, hd0', z1, z2, z3, wi, hol, setC_v hnf, k8, hkz, -Int.natCast_add]
                    refine fill_s _ x y k 1 f _ _ _ hx (by omega) (by omega) hfm (fun x12 o2 B2 H2 ho2 => ?_) 0 o B H1 (Nat.zero_le _) (fun _ => rfl) (by split <;> (simp only [cellsN, List.append_nil]; exact ho))
                    have hn2 := fin o2 B2 H2 ho2
                    by_cases ht : 4194304 < max (x + 1) y
                    · rw [if_pos ht] at hp
                      have k := qno hp (.nl 4)
                      simp (maxSteps := 2000000) (disch := omega) [gd_in, gd_and, wr_i64, z3, ht, setC_v hn2]
                      exact k
                    · rw [if_neg ht] at hp
                      have k := ih (i + 1) (by omega) (x + 1) y _ 0 0 o2 B2 H2 (by omega) ho2 hp (by omega) (by omega) hf2 (by omega) (by decide)
                      simp (maxSteps := 2000000) (disch := omega) [gd_in, gd_and, wr_i64, z3, ht, wi, setC_v hn2, -Int.natCast_add]
                      exact k
            · have hd0' : ¬ (d : Int) = 0 := by omega
              simp only [if_neg hd0] at hp
              obtain ⟨z1, z2, z3⟩ := wz n (by omega)
              by_cases k8 : k = 8
              · subst k8
                rw [if_neg (by omega)] at hp
                have ea : act ⟨x, y, f⟩ (n : Int) 8 = ⟨0, y + (n : Int), f⟩ := rfl
                rw [ea] at hp
                dsimp only at hp
                by_cases ht : 4194304 < max 0 (y + (n : Int))
                · rw [if_pos ht] at hp
                  have k := qno hp (.nl 4)
                  simp (maxSteps := 2000000) (disch := omega) [gd_in, gd_and, wr_i64, hlt, hlt', hnn, h1, h1', cl (gx2 _), hk0, hd0, hd0', z1, z2, z3, wi, hol, setC_v hnf, ht, -Int.natCast_add]
                  exact k
                · rw [if_neg ht] at hp
                  have k := ih (i + 1) (by omega) 0 (y + (n : Int)) f 0 0 o B H1 (by omega) ho hp (by omega) (by omega) hf (by omega) (by decide)
                  simp (maxSteps := 2000000) (disch := omega) [gd_in, gd_and, wr_i64, hlt, hlt', hnn, h1, h1', cl (gx2 _), hk0, hd0, hd0', z1, z2, z3, wi, hol, setC_v hnf, ht, -Int.natCast_add]
                  exact k
              · have hkp8 : k < 8 := by omega
                have ea : act ⟨x, y, f⟩ (n : Int) k = ⟨x + (n : Int), y, if k = 0 then f else f ++ cellsN x y k n⟩ := by unfold act; rw [if_neg k8]; rfl
                by_cases hbig : 0 < k ∧ k < 8 ∧ 5000 < f.length + n
                · rw [if_pos hbig] at hp
                  have k := qno hp (.nl 4)
                  obtain ⟨hb1, _, hb2⟩ := hbig
                  have hb2' : (5000 : Int) < ((f.length + n : Nat) : Int) := by omega
                  simp (maxSteps := 2000000) (disch := omega) [gd_in, gd_and, wr_i64, hlt, hlt', hnn, h1, h1', cl (gx2 _), hk0, hd0, hd0', z1, z2, z3, wi, hol, setC_v hnf, k8, hb1, hb2, hb2', -Int.natCast_add]
                  exact k
                · rw [if_neg hbig, ea] at hp
                  dsimp only at hp
                  have hfm : 0 < k → f.length + n ≤ 5000 := fun h => by have := fun h3 => hbig ⟨h, hkp8, h3⟩; omega
                  have fin : ∀ (o2 : V) (B : List (Nat × List V)) (H2 : Hp), OutP (if k = 0 then f else f ++ cellsN x y k n) o2 H2 → noFaV o2 = true := fun o2 B H2 h => (outP_view h).2
                  have hf2 : (if k = 0 then f else f ++ cellsN x y k n).length ≤ 5000 := by
                    split
                    · exact hf
                    · rw [fit_len]; exact hfm (by omega)
                  by_cases hkz : 0 < k
                  · have hb2' : ¬ (5000 : Int) < ((f.length + n : Nat) : Int) := by have := hfm hkz; omega
                    have hb2 : ¬ 5000 < f.length + n := by have := hfm hkz; omega
                    simp (maxSteps := 2000000) (disch := omega) [gd_in, gd_and, wr_i64, hlt, hlt', hnn, h1, h1', cl (gx2 _), hk0, hd0, hd0', z1, z2, z3, wi, hol, setC_v hnf, k8, hkz, hb2, hb2', -Int.natCast_add]
                    refine fill_s _ x y k n f _ _ _ hx (by omega) (by omega) hfm (fun x12 o2 B2 H2 ho2 => ?_) 0 o B H1 (Nat.zero_le _) (fun _ => rfl) (by split <;> (simp only [cellsN, List.append_nil]; exact ho))
                    have hn2 := fin o2 B2 H2 ho2
                    by_cases ht : 4194304 < max (x + (n : Int)) y
                    · rw [if_pos ht] at hp
                      have k := qno hp (.nl 4)
                      simp (maxSteps := 2000000) (disch := omega) [gd_in, gd_and, wr_i64, z3, ht, setC_v hn2]
                      exact k
                    · rw [if_neg ht] at hp
                      have k := ih (i + 1) (by omega) (x + (n : Int)) y _ 0 0 o2 B2 H2 (by omega) ho2 hp (by omega) (by omega) hf2 (by omega) (by decide)
                      simp (maxSteps := 2000000) (disch := omega) [gd_in, gd_and, wr_i64, z3, ht, wi, setC_v hn2, -Int.natCast_add]
                      exact k
                  · have hkz2 : k = 0 := by omega
                    simp (maxSteps := 2000000) (disch := omega) [gd_in, gd_and, wr_i64, hlt, hlt', hnn, h1, h1', cl (gx2 _), hk0, hd0, hd0', z1, z2, z3, wi, hol, setC_v hnf, k8, hkz, -Int.natCast_add]
                    refine fill_s _ x y k n f _ _ _ hx (by omega) (by omega) hfm (fun x12 o2 B2 H2 ho2 => ?_) 0 o B H1 (Nat.zero_le _) (fun _ => rfl) (by split <;> (simp only [cellsN, List.append_nil]; exact ho))
                    have hn2 := fin o2 B2 H2 ho2
                    by_cases ht : 4194304 < max (x + (n : Int)) y
                    · rw [if_pos ht] at hp
                      have k := qno hp (.nl 4)
                      simp (maxSteps := 2000000) (disch := omega) [gd_in, gd_and, wr_i64, z3, ht, setC_v hn2]
                      exact k
                    · rw [if_neg ht] at hp
                      have k := ih (i + 1) (by omega) (x + (n : Int)) y _ 0 0 o2 B2 H2 (by omega) ho2 hp (by omega) (by omega) hf2 (by omega) (by decide)
                      simp (maxSteps := 2000000) (disch := omega) [gd_in, gd_and, wr_i64, z3, ht, wi, setC_v hn2, -Int.natCast_add]
                      exact k
          · have h1' : (48 : Int) ≤ c := by omega
            have h2' : ¬ (c : Int) ≤ 57 := by omega
            by_cases hd0 : d = 0
            · have hd0' : (d : Int) = 0 := by omega
              simp only [if_pos hd0] at hp
              obtain ⟨z1, z2, z3⟩ := wz 1 (by omega)
              simp only [show ((1 : Nat) : Int) = 1 from rfl] at z1 z2 z3 hp
              by_cases k8 : k = 8
              · subst k8
                rw [if_neg (by omega)] at hp
                have ea : act ⟨x, y, f⟩ 1 8 = ⟨0, y + 1, f⟩ := rfl
                rw [ea] at hp
                dsimp only at hp
                by_cases ht : 4194304 < max 0 (y + 1)
                · rw [if_pos ht] at hp
                  have k := qno hp (.nl 4)
                  simp (maxSteps := 2000000) (disch := omega) [gd_in, gd_and, wr_i64, hlt, hlt', hnn, h1, h1', h2, h2', cl (gx2 _), hk0, hd0, hd0', z1, z2, z3, wi, hol, setC_v hnf, ht, -Int.natCast_add]
                  exact k
                · rw [if_neg ht] at hp
                  have k := ih (i + 1) (by omega) 0 (y + 1) f 0 0 o B H1 (by omega) ho hp (by omega) (by omega) hf (by omega) (by decide)
                  simp (maxSteps := 2000000) (disch := omega) [gd_in, gd_and, wr_i64, hlt, hlt', hnn, h1, h1', h2, h2', cl (gx2 _), hk0, hd0, hd0', z1, z2, z3, wi, hol, setC_v hnf, ht, -Int.natCast_add]
                  exact k
              · have hkp8 : k < 8 := by omega
                have ea : act ⟨x, y, f⟩ 1 k = ⟨x + 1, y, if k = 0 then f else f ++ cellsN x y k 1⟩ := by unfold act; rw [if_neg k8]; rfl
                by_cases hbig : 0 < k ∧ k < 8 ∧ 5000 < f.length + 1
                · rw [if_pos hbig] at hp
                  have k := qno hp (.nl 4)
                  obtain ⟨hb1, _, hb2⟩ := hbig
                  have hb2' : (5000 : Int) < ((f.length + 1 : Nat) : Int) := by omega
                  simp (maxSteps := 2000000) (disch := omega) [gd_in, gd_and, wr_i64, hlt, hlt', hnn, h1, h1', h2, h2', cl (gx2 _), hk0, hd0, hd0', z1, z2, z3, wi, hol, setC_v hnf, k8, hb1, hb2, hb2', -Int.natCast_add]
                  exact k
                · rw [if_neg hbig, ea] at hp
                  dsimp only at hp
                  have hfm : 0 < k → f.length + 1 ≤ 5000 := fun h => by have := fun h3 => hbig ⟨h, hkp8, h3⟩; omega
                  have fin : ∀ (o2 : V) (B : List (Nat × List V)) (H2 : Hp), OutP (if k = 0 then f else f ++ cellsN x y k 1) o2 H2 → noFaV o2 = true := fun o2 B H2 h => (outP_view h).2
                  have hf2 : (if k = 0 then f else f ++ cellsN x y k 1).length ≤ 5000 := by
                    split
                    · exact hf
                    · rw [fit_len]; exact hfm (by omega)
                  by_cases hkz : 0 < k
                  · have hb2' : ¬ (5000 : Int) < ((f.length + 1 : Nat) : Int) := by have := hfm hkz; omega
                    have hb2 : ¬ 5000 < f.length + 1 := by have := hfm hkz; omega
                    simp (maxSteps := 2000000) (disch := omega) [gd_in, gd_and, wr_i64, hlt, hlt', hnn, h1, h1', h2, h2', cl (gx2 _), hk0, hd0, hd0', z1, z2, z3, wi, hol, setC_v hnf, k8, hkz, hb2, hb2', -Int.natCast_add]
                    refine fill_s _ x y k 1 f _ _ _ hx (by omega) (by omega) hfm (fun x12 o2 B2 H2 ho2 => ?_) 0 o B H1 (Nat.zero_le _) (fun _ => rfl) (by split <;> (simp only [cellsN, List.append_nil]; exact ho))
                    have hn2 := fin o2 B2 H2 ho2
                    by_cases ht : 4194304 < max (x + 1) y
                    · rw [if_pos ht] at hp
                      have k := qno hp (.nl 4)
                      simp (maxSteps := 2000000) (disch := omega) [gd_in, gd_and, wr_i64, z3, ht, setC_v hn2]
                      exact k
                    · rw [if_neg ht] at hp
                      have k := ih (i + 1) (by omega) (x + 1) y _ 0 0 o2 B2 H2 (by omega) ho2 hp (by omega) (by omega) hf2 (by omega) (by decide)
                      simp (maxSteps := 2000000) (disch := omega) [gd_in, gd_and, wr_i64, z3, ht, wi, setC_v hn2, -Int.natCast_add]
                      exact k
                  · have hkz2 : k = 0 := by omega
                    simp (maxSteps := 2000000) (disch := omega) [gd_in, gd_and, wr_i64, hlt, hlt', hnn, h1, h1', h2, h2', cl (gx2 _), hk0, hd0, hd0', z1, z2, z3, wi, hol, setC_v hnf, k8, hkz, -Int.natCast_add]
                    refine fill_s _ x y k 1 f _ _ _ hx (by omega) (by omega) hfm (fun x12 o2 B2 H2 ho2 => ?_) 0 o B H1 (Nat.zero_le _) (fun _ => rfl) (by split <;> (simp only [cellsN, List.append_nil]; exact ho))
                    have hn2 := fin o2 B2 H2 ho2
                    by_cases ht : 4194304 < max (x + 1) y
                    · rw [if_pos ht] at hp
                      have k := qno hp (.nl 4)
                      simp (maxSteps := 2000000) (disch := omega) [gd_in, gd_and, wr_i64, z3, ht, setC_v hn2]
                      exact k
                    · rw [if_neg ht] at hp
                      have k := ih (i + 1) (by omega) (x + 1) y _ 0 0 o2 B2 H2 (by omega) ho2 hp (by omega) (by omega) hf2 (by omega) (by decide)
                      simp (maxSteps := 2000000) (disch := omega) [gd_in, gd_and, wr_i64, z3, ht, wi, setC_v hn2, -Int.natCast_add]
                      exact k
            · have hd0' : ¬ (d : Int) = 0 := by omega
              simp only [if_neg hd0] at hp
              obtain ⟨z1, z2, z3⟩ := wz n (by omega)
              by_cases k8 : k = 8
              · subst k8
                rw [if_neg (by omega)] at hp
                have ea : act ⟨x, y, f⟩ (n : Int) 8 = ⟨0, y + (n : Int), f⟩ := rfl
                rw [ea] at hp
                dsimp only at hp
                by_cases ht : 4194304 < max 0 (y + (n : Int))
                · rw [if_pos ht] at hp
                  have k := qno hp (.nl 4)
                  simp (maxSteps := 2000000) (disch := omega) [gd_in, gd_and, wr_i64, hlt, hlt', hnn, h1, h1', h2, h2', cl (gx2 _), hk0, hd0, hd0', z1, z2, z3, wi, hol, setC_v hnf, ht, -Int.natCast_add]
                  exact k
                · rw [if_neg ht] at hp
                  have k := ih (i + 1) (by omega) 0 (y + (n : Int)) f 0 0 o B H1 (by omega) ho hp (by omega) (by omega) hf (by omega) (by decide)
                  simp (maxSteps := 2000000) (disch := omega) [gd_in, gd_and, wr_i64, hlt, hlt', hnn, h1, h1', h2, h2', cl (gx2 _), hk0, hd0, hd0', z1, z2, z3, wi, hol, setC_v hnf, ht, -Int.natCast_add]
                  exact k
              · have hkp8 : k < 8 := by omega
                have ea : act ⟨x, y, f⟩ (n : Int) k = ⟨x + (n : Int), y, if k = 0 then f else f ++ cellsN x y k n⟩ := by unfold act; rw [if_neg k8]; rfl
                by_cases hbig : 0 < k ∧ k < 8 ∧ 5000 < f.length + n
                · rw [if_pos hbig] at hp
                  have k := qno hp (.nl 4)
                  obtain ⟨hb1, _, hb2⟩ := hbig
                  have hb2' : (5000 : Int) < ((f.length + n : Nat) : Int) := by omega
                  simp (maxSteps := 2000000) (disch := omega) [gd_in, gd_and, wr_i64, hlt, hlt', hnn, h1, h1', h2, h2', cl (gx2 _), hk0, hd0, hd0', z1, z2, z3, wi, hol, setC_v hnf, k8, hb1, hb2, hb2', -Int.natCast_add]
                  exact k
                · rw [if_neg hbig, ea] at hp
                  dsimp only at hp
                  have hfm : 0 < k → f.length + n ≤ 5000 := fun h => by have := fun h3 => hbig ⟨h, hkp8, h3⟩; omega
                  have fin : ∀ (o2 : V) (B : List (Nat × List V)) (H2 : Hp), OutP (if k = 0 then f else f ++ cellsN x y k n) o2 H2 → noFaV o2 = true := fun o2 B H2 h => (outP_view h).2
                  have hf2 : (if k = 0 then f else f ++ cellsN x y k n).length ≤ 5000 := by
                    split
                    · exact hf
                    · rw [fit_len]; exact hfm (by omega)
                  by_cases hkz : 0 < k
                  · have hb2' : ¬ (5000 : Int) < ((f.length + n : Nat) : Int) := by have := hfm hkz; omega
                    have hb2 : ¬ 5000 < f.length + n := by have := hfm hkz; omega
                    simp (maxSteps := 2000000) (disch := omega) [gd_in, gd_and, wr_i64, hlt, hlt', hnn, h1, h1', h2, h2', cl (gx2 _), hk0, hd0, hd0', z1, z2, z3, wi, hol, setC_v hnf, k8, hkz, hb2, hb2', -Int.natCast_add]
                    refine fill_s _ x y k n f _ _ _ hx (by omega) (by omega) hfm (fun x12 o2 B2 H2 ho2 => ?_) 0 o B H1 (Nat.zero_le _) (fun _ => rfl) (by split <;> (simp only [cellsN, List.append_nil]; exact ho))
                    have hn2 := fin o2 B2 H2 ho2
                    by_cases ht : 4194304 < max (x + (n : Int)) y
                    · rw [if_pos ht] at hp
                      have k := qno hp (.nl 4)
                      simp (maxSteps := 2000000) (disch := omega) [gd_in, gd_and, wr_i64, z3, ht, setC_v hn2]
                      exact k
                    · rw [if_neg ht] at hp
                      have k := ih (i + 1) (by omega) (x + (n : Int)) y _ 0 0 o2 B2 H2 (by omega) ho2 hp (by omega) (by omega) hf2 (by omega) (by decide)
                      simp (maxSteps := 2000000) (disch := omega) [gd_in, gd_and, wr_i64, z3, ht, wi, setC_v hn2, -Int.natCast_add]
                      exact k
                  · have hkz2 : k = 0 := by omega
                    simp (maxSteps := 2000000) (disch := omega) [gd_in, gd_and, wr_i64, hlt, hlt', hnn, h1, h1', h2, h2', cl (gx2 _), hk0, hd0, hd0', z1, z2, z3, wi, hol, setC_v hnf, k8, hkz, -Int.natCast_add]
                    refine fill_s _ x y k n f _ _ _ hx (by omega) (by omega) hfm (fun x12 o2 B2 H2 ho2 => ?_) 0 o B H1 (Nat.zero_le _) (fun _ => rfl) (by split <;> (simp only [cellsN, List.append_nil]; exact ho))
                    have hn2 := fin o2 B2 H2 ho2
                    by_cases ht : 4194304 < max (x + (n : Int)) y
                    · rw [if_pos ht] at hp
                      have k := qno hp (.nl 4)
                      simp (maxSteps := 2000000) (disch := omega) [gd_in, gd_and, wr_i64, z3, ht, setC_v hn2]
                      exact k
                    · rw [if_neg ht] at hp
                      have k := ih (i + 1) (by omega) (x + (n : Int)) y _ 0 0 o2 B2 H2 (by omega) ho2 hp (by omega) (by omega) hf2 (by omega) (by decide)
                      simp (maxSteps := 2000000) (disch := omega) [gd_in, gd_and, wr_i64, z3, ht, wi, setC_v hn2, -Int.natCast_add]
                      exact k
  obtain ⟨x, H', h1, rfl, _, w, h2, rfl⟩ := key
  exact ⟨w, h2, h1⟩
end Go.Mx.Tryd
namespace Go.Mx.Tryd
open Go.Sort Go.Lib Go.Proofs

def cE (p : List Ce) : Int := match formE p with
  | some e => e
  | none => if 65536 < (codeS p).length then 6 else 0
def cT (p : List Ce) : List Nat := if cE p = 0 then codeS p else []
theorem home_nil {p : List Ce} : homeC p = [] ↔ p = [] := by
  have := home_len p
  constructor <;> intro h
  · exact List.eq_nil_of_length_eq_zero (by rw [← this, h]; rfl)
  · exact List.eq_nil_of_length_eq_zero (by rw [this, h]; rfl)
theorem codeS_eq (p : List Ce) : codeS p = if homeC p = [] then [45] else codeT (homeC p) := by
  unfold codeS
  by_cases h : p = []
  · rw [if_pos h, if_pos (home_nil.2 h)]
  · rw [if_neg h, if_neg (fun h2 => h (home_nil.1 h2))]
theorem formE_cases {p : List Ce} {e : Int} (h : formE p = some e) : (right p = false ∧ e = 2) ∨ (right p = true ∧ largeC p = true ∧ e = 5) := by
  unfold formE at h
  cases hr : right p <;> cases hl : largeC p <;> simp_all
theorem codeR_r {v : I} {p : List Ce} (hv : IsSl v (cells3 p)) (hl : p.length ≤ 1000000) (H : Hp) : Gives G 10 [.m v] H (.tu [.m (.s (cT p)), .m (.i .i64 (cE p))]) H := by
  have g1 := fun H => right_r hv (by omega) H
  have g2 := fun H => large_r hv (by omega) H
  refine gives_pur rfl rfl rfl rfl rfl ?_
  cases he : formE p with
  | some e =>
    have e1 : cE p = e := by unfold cE; rw [he]
    rcases formE_cases he with ⟨hr, rfl⟩ | ⟨hr, hg, rfl⟩
    · have e2 : cT p = [] := by unfold cT; rw [e1]; rfl
      rw [hr] at g1
      simp (maxSteps := 2000000) (disch := omega) [gd_in, gd_and, wr_i64, cl (g1 _), e1, e2]
    · have e2 : cT p = [] := by unfold cT; rw [e1]; rfl
      rw [hr] at g1
      rw [hg] at g2
      simp (maxSteps := 2000000) (disch := omega) [gd_in, gd_and, wr_i64, cl (g1 _), cl (g2 _), e1, e2]
  | none =>
    obtain ⟨hr, hlg⟩ := formE_none he
    have hs := span_of hr hlg
    rw [hr] at g1
    rw [hlg] at g2
    have g3 := fun H => img_r hv hr hs 0 (by omega) H
    rw [show modS 0 = 0 from by decide, img_0 (right_pw hr).1] at g3
    have g4 := fun H => write_r (zP_sl (homeC p)) (home_aft hr hs) (by rw [home_len]; exact (right_pw hr).2.2) H
    rw [← codeS_eq] at g4
    have e0 : cE p = if 65536 < (codeS p).length then 6 else 0 := by unfold cE; rw [he]
    by_cases hlen : 65536 < (codeS p).length
    · have hlen' : (65536 : Int) < (codeS p).length := by omega
      rw [if_pos hlen] at e0
      have e2 : cT p = [] := by unfold cT; rw [e0]; rfl
      simp (maxSteps := 2000000) (disch := omega) [gd_in, gd_and, wr_i64, cl (g1 _), cl (g2 _), cl (g3 _), cl (g4 _), hlen, hlen', e0, e2]
    · have hlen' : ¬ (65536 : Int) < (codeS p).length := by omega
      rw [if_neg hlen] at e0
      have e2 : cT p = codeS p := by unfold cT; rw [e0]; rfl
      simp (maxSteps := 2000000) (disch := omega) [gd_in, gd_and, wr_i64, cl (g1 _), cl (g2 _), cl (g3 _), cl (g4 _), hlen, hlen', e0, e2]
theorem codeS_s {v : I} {p : List Ce} (hv : IsSl v (cells3 p)) (hl : p.length ≤ 1000000) (H : Hp) : Gives G 9 [.m v] H (.tu [.m (.s (cT p)), .m (.i .i64 (cE p))]) H := by
  have g1 := fun H => right_s hv (by omega) H
  have g2 := fun H => large_s hv (by omega) H
  have hrv := hv.rules
  simp only [show (cells3 p).length = p.length from by simp [cells3]] at hrv
  refine gives_pur rfl rfl rfl rfl rfl ?_
  cases he : formE p with
  | some e =>
    have e1 : cE p = e := by unfold cE; rw [he]
    rcases formE_cases he with ⟨hr, rfl⟩ | ⟨hr, hg, rfl⟩
    · have e2 : cT p = [] := by unfold cT; rw [e1]; rfl
      rw [hr] at g1
      simp (maxSteps := 2000000) (disch := omega) [gd_in, gd_and, wr_i64, cl (g1 _), e1, e2]
    · have e2 : cT p = [] := by unfold cT; rw [e1]; rfl
      rw [hr] at g1
      rw [hg] at g2
      simp (maxSteps := 2000000) (disch := omega) [gd_in, gd_and, wr_i64, cl (g1 _), cl (g2 _), e1, e2]
  | none =>
    obtain ⟨hr, hlg⟩ := formE_none he
    have hs := span_of hr hlg
    rw [hr] at g1
    rw [hlg] at g2
    have e0 : cE p = if 65536 < (codeS p).length then 6 else 0 := by unfold cE; rw [he]
    by_cases hp0 : p = []
    · have e1 : codeS p = [45] := by unfold codeS; rw [if_pos hp0]
      rw [e1] at e0
      have e0' : cE p = 0 := e0
      have e2 : cT p = [45] := by unfold cT; rw [if_pos e0', e1]
      subst hp0
      simp (maxSteps := 2000000) (disch := omega) [gd_in, gd_and, wr_i64, cl (g1 _), cl (g2 _), hrv, e0', e2]
    · have hpl : ¬ (p.length : Int) = 0 := fun h => hp0 (List.eq_nil_of_length_eq_zero (by omega))
      have g3 := fun H => home_s hv hr H
      simp only [if_neg hp0] at g3
      have g4 := fun H => code_s (isSl_sl (cells3 (homeC p))) (home_aft hr hs) (by rw [home_len]; exact (right_pw hr).2.2) H
      rw [show codeT (homeC p) = codeS p from by unfold codeS; rw [if_neg hp0]] at g4
      by_cases hlen : 65536 < (codeS p).length
      · have hlen' : (65536 : Int) < (codeS p).length := by omega
        rw [if_pos hlen] at e0
        have e2 : cT p = [] := by unfold cT; rw [e0]; rfl
        simp (maxSteps := 2000000) (disch := omega) [gd_in, gd_and, wr_i64, cl (g1 _), cl (g2 _), hrv, hp0, hpl, cl (g3 _), cl (g4 _), hlen, hlen', e0, e2]
      · have hlen' : ¬ (65536 : Int) < (codeS p).length := by omega
        rw [if_neg hlen] at e0
        have e2 : cT p = codeS p := by unfold cT; rw [e0]; rfl
        simp (maxSteps := 2000000) (disch := omega) [gd_in, gd_and, wr_i64, cl (g1 _), cl (g2 _), hrv, hp0, hpl, cl (g3 _), cl (g4 _), hlen, hlen', e0, e2]
theorem act_len {st : PS} {m : Nat} {k : Int} : (act st (m : Int) k).out.length ≤ st.out.length + (if 0 < k ∧ k < 8 then m else 0) ∨ k < 0 ∨ 8 < k := by
  unfold act
  by_cases h8 : k = 8
  · rw [if_pos h8]; exact .inl (by dsimp only; omega)
  · rw [if_neg h8]
    by_cases h0 : k = 0
    · rw [if_pos h0]; exact .inl (by dsimp only; omega)
    · rw [if_neg h0]
      by_cases h : 0 < k ∧ k < 8
      · rw [if_pos h]
        exact .inl (by dsimp only; rw [List.length_append, cellsN_len]; omega)
      · exact .inr (by omega)
theorem parA_len : ∀ (s : List Nat) (n d : Nat) (st : PS) (l : List Ce), st.out.length ≤ 5000 → parA st n d s = some l → l.length ≤ 5000
  | [], n, d, st, l, h, hp => by
    have hp : (if d = 0 then some st.out else none) = some l := hp
    split at hp
    · cases hp; exact h
    · cases hp
  | c :: r, n, d, st, l, h, hp => by
    unfold parA at hp
    split at hp
    · split at hp
      · cases hp
      · exact parA_len r _ _ _ l h hp
    · split at hp
      · cases hp
      · rename_i k hk
        have hkb := lix_bnd hk
        generalize (if d = 0 then 1 else n) = m at hp
        by_cases hn1 : 0 < k ∧ k < 8 ∧ 5000 < st.out.length + m
        · rw [if_pos hn1] at hp; cases hp
        · rw [if_neg hn1] at hp
          split at hp
          · cases hp
          · refine parA_len r _ _ _ l ?_ hp
            rcases act_len (st := st) (m := m) (k := k) with h2 | h2
            · refine Nat.le_trans h2 ?_
              split
              · omega
              · exact h
            · omega
structure IsCode (s : List Nat) (h : List Ce) : Prop where
  r : right h = true
  l : largeC h = false
  home : homeC h = h
  ne : h ≠ []
  code : codeT h = s
theorem isCode_aft {s : List Nat} {h : List Ce} (hc : IsCode s h) : aft 0 0 h := by
  have := home_aft hc.r (span_of hc.r hc.l)
  rw [hc.home] at this
  exact this
theorem isCode_A {s : List Nat} {h : List Ce} (hc : IsCode s h) : parA ⟨0, 0, []⟩ 0 0 s = some h := by
  rw [← hc.code]
  exact par_code parA_par (isCode_aft hc) (right_pw hc.r).2.2 hc.ne
theorem isCode_B {s : List Nat} {h : List Ce} (hc : IsCode s h) : parB ⟨0, 0, []⟩ 0 s = some h := by
  rw [← hc.code]
  exact par_code parB_par (isCode_aft hc) (right_pw hc.r).2.2 hc.ne
theorem isCode_uniq {s : List Nat} {h h' : List Ce} (hc : IsCode s h) (hc' : IsCode s h') : h = h' := Option.some.inj ((isCode_A hc).symm.trans (isCode_A hc'))
theorem home_right {p : List Ce} (hr : right p = true) (hlg : largeC p = false) : right (homeC p) = true ∧ largeC (homeC p) = false := by
  have hs := span_of hr hlg
  have h1 := img_right (k := 0) hr hs
  rw [img_0 (right_pw hr).1] at h1
  exact ⟨h1, large_of h1 (span_mv _ _ hs)⟩
theorem code_is {s : List Nat} {p : List Ce} (h0 : cE p = 0) (ht : cT p = s) (hs : ¬ s = [45]) : IsCode s (homeC p) ∧ p ≠ [] ∧ right p = true ∧ largeC p = false := by
  have he : formE p = none := by
    cases he : formE p with
    | none => rfl
    | some e =>
      have e1 : cE p = e := by unfold cE; rw [he]
      rcases formE_cases he with ⟨_, rfl⟩ | ⟨_, _, rfl⟩ <;> rw [e1] at h0 <;> cases h0
  obtain ⟨hr, hlg⟩ := formE_none he
  have e2 : cT p = codeS p := by unfold cT; rw [if_pos h0]
  have hne : p ≠ [] := fun h => by
    subst h
    exact hs (by rw [← ht, e2]; rfl)
  have hh := home_right hr hlg
  refine ⟨⟨hh.1, hh.2, home_home p, fun h => hne (home_nil.1 h), ?_⟩, hne, hr, hlg⟩
  rw [← ht, e2]
  unfold codeS
  rw [if_neg hne]
theorem is_code {s : List Nat} {h : List Ce} (hc : IsCode s h) (hl : s.length ≤ 65536) : cE h = 0 ∧ cT h = s := by
  have he : formE h = none := by unfold formE; rw [hc.r, hc.l]; rfl
  have e1 : codeS h = s := by unfold codeS; rw [if_neg hc.ne, hc.home, hc.code]
  have e2 : cE h = 0 := by unfold cE; rw [he, e1]; exact if_neg (by omega)
  exact ⟨e2, by unfold cT; rw [if_pos e2, e1]⟩
def DecQ (s : List Nat) (x : V) : Prop := (∃ h, IsCode s h ∧ x = .tu [.m (zP h), .m (.i .i64 0)]) ∨ ((∀ h, ¬ IsCode s h) ∧ x = .tu [.m (.nl 4), .m (.i .i64 15)])
theorem decQ_uniq {s : List Nat} {x y : V} (h : DecQ s x) (h' : DecQ s y) : x = y := by
  rcases h with ⟨a, ha, rfl⟩ | ⟨ha, rfl⟩ <;> rcases h' with ⟨b, hb, rfl⟩ | ⟨hb, rfl⟩
  · rw [isCode_uniq ha hb]
  · exact absurd ha (hb a)
  · exact absurd hb (ha b)
  · rfl
theorem outP_call {F : Nat} {f : List Ce} {o v : V} {H : Hp} (hp : G.prim F = none) (hs : G.sh F = false) (ho : OutP f o H) (h : ∀ H, Gives G F [.m (zP f)] H v H) (hf : flatV v = true) : Gives G F [o] H v H := by
  rcases ho with ⟨rfl, rfl, rfl⟩ | ⟨hne, rfl, rfl⟩
  · exact h []
  · refine gives_view (is := [zP f]) hp hs (h []) ?_ (.inr ⟨by simp [refs, ref1], hf⟩)
    have := viewP (r := 0) (b := 0) (X := []) (A := []) (q := f) (n := f.length) rfl (Nat.zero_le _) 18
    show ((view 20 _ _).bind _) = _
    rw [this]
    unfold zP
    rw [if_neg hne]
    rfl
end Go.Mx.Tryd
