/- CanonCodes and CanonRoundTrip: the laws. -/
import Derived.Test.YtchacpbmpgfblaaDoorDz
import Derived.Test.YtchacpbmpgfblaaDoorSf
import Derived.Test.YtchacpbmpgfblaaDoorAw
set_option linter.unusedSimpArgs false
set_option linter.unusedVariables false
set_option linter.unusedSectionVars false
set_option maxRecDepth 100000
namespace Go.Mx.Tryd
open Go.Sort Go.Lib Go.Proofs

set_option maxHeartbeats 2000000 in
theorem fill_r (s : V) (x y : Int) (c m : Nat) (f0 : List Ce) (ix : V) (K : K) (hx : 0 ≤ x ∧ x ≤ 2097152) (hc : 65 ≤ c ∧ c ≤ 71) (hm : m ≤ 10000000) (hfm : f0.length + m ≤ 5000)
  (hend : ∀ (o : V) (B : List (Nat × List V)) (H : Hp), OutP (f0 ++ cellsN x y ((c : Int) - 64) m) o H → At' G (.ex 2) ⟨[(0, s), (4, o), (5, .m (.i .i64 x)), (6, .m (.i .i64 y)), (7, .m (.i .i64 (m : Int))), (8, ix), (9, .m (.i .u8 (c : Int))), (10, .m (.i .i64 (m : Int))), (68, .m (.b false))], [], ⟨B, H⟩⟩ K) :
  ∀ (j : Nat) (o : V) (B : List (Nat × List V)) (H : Hp), j ≤ m → OutP (f0 ++ cellsN x y ((c : Int) - 64) j) o H → Run G c12_B0 (S12_0 s o (.m (.i .i64 x)) (.m (.i .i64 y)) (.m (.i .i64 (m : Int))) ix (.m (.i .u8 (c : Int))) (.m (.i .i64 (j : Int))) B H) (.seq c12_L0 K) := by
 refine indM (fun j : Nat => m - j) fun j ih o B H hj ho => ?_
 unfold c12_B0
 have hnf := (outP_view ho).2
 by_cases hjm : j < m
 ·have hjm' : (j : Int) < m := by omega
  have w1 : wr .i64 ((j : Int) + 1) = ((j + 1 : Nat) : Int) := wr_i64 (by omega) (by omega)
  have w2 : wr .i64 (x + (j : Int)) = x + j := wr_i64 (by omega) (by omega)
  have w3 : wr .u8 ((c : Int) - 65) = (c : Int) - 65 := wr_u8 (by omega) (by omega)
  have w4 : wr .i64 ((c : Int) - 65) = (c : Int) - 65 := wr_i64 (by omega) (by omega)
  have w5 : wr .i64 ((c : Int) - 65 + 1) = (c : Int) - 64 := by rw [wr_i64 (by omega) (by omega)]; omega
  obtain ⟨o1, H1, ha, hn1, ho1⟩ := outP_push ho (by rw [fit_len]; omega) ⟨x + j, y, (c : Int) - 64⟩
  dsimp only at ha
  have k1 := ih (j + 1) (by omega) o1 B H1 (by omega) (by rw [List.append_assoc] at ho1; exact ho1)
  simp (maxSteps := 2000000) (disch := omega) [gd_in, gd_and, wr_i64, hjm, hjm', w1, w2, w3, w4, w5, ha, setC_v hn1, setC_v hnf, -Int.natCast_add]
  exact k1
 ·have : j = m := by omega
  subst this
  have k1 := hend o B H ho
  simp (maxSteps := 2000000) (disch := omega) [gd_in, gd_and, wr_i64, ]
  exact k1
theorem lix_none {c : Nat} (h1 : ¬ c = 46) (h2 : ¬ c = 36) (h3 : ¬ (65 ≤ c ∧ c ≤ 71)) : lix c = none := by
 unfold lix
 rw [if_neg h1, if_neg h2, if_neg h3]
theorem lix_cell {c : Nat} (h : 65 ≤ c ∧ c ≤ 71) : lix c = some ((c : Int) - 64) := by
 unfold lix
 rw [if_neg (by omega), if_neg (by omega), if_pos h]
theorem parB_at {st : PS} {n c : Nat} {r : List Nat} (h : ¬ isDg c) : parB st n (c :: r) = match lix c with
  | none => none
  | some k => if 0 < k ∧ k < 8 ∧ 5000 < st.out.length + max n 1 then none
   else if 2097152 < (act st (max n 1 : Nat) k).x ∨ 2097152 < (act st (max n 1 : Nat) k).y then none else parB (act st (max n 1 : Nat) k) 0 r := by
 show (if isDg c then _ else _) = _
 rw [if_neg h]
 rfl
set_option maxHeartbeats 4000000 in
theorem decode_r (s : List Nat) (hb : ∀ c, c ∈ s → c < 256) (hl : s.length ≤ 65536) (h45 : ¬ s = [45]) (H : Hp) : ∃ x, DecQ s x ∧ Gives G 12 [.m (.s s)] H x H := by
 have key : ∃ x H', Gives G 12 [.m (.s s)] H x H' ∧ (H' = H ∧ DecQ s x) := by
  refine gives_of_ret ?_
  refine ret_pur rfl rfl rfl rfl rfl ?_
  generalize hQ : (fun (x : V) (H' : Hp) => H' = H ∧ DecQ s x) = Q
  have qno : (∀ h, ¬ IsCode s h) → Q (.tu [.m (.nl 4), .m (.i .i64 15)]) H := fun h => by rw [← hQ]; exact ⟨rfl, .inr ⟨h, rfl⟩⟩
  have qok : ∀ h, IsCode s h → Q (.tu [.m (zP h), .m (.i .i64 0)]) H := fun h hc => by rw [← hQ]; exact ⟨rfl, .inl ⟨h, hc, rfl⟩⟩
  have qpar : parB ⟨0, 0, []⟩ 0 s = none → Q (.tu [.m (.nl 4), .m (.i .i64 15)]) H := fun h => qno fun h2 hc => by rw [isCode_B hc] at h; cases h
  clear hQ
  have hl' : ¬ (65536 : Int) < s.length := by omega
  have hl'' : ¬ 65536 < s.length := by omega
  simp (maxSteps := 2000000) (disch := omega) [gd_in, gd_and, wr_i64, hl', hl'', h45]
  refine (?key : ∀ (i : Nat) (x y : Int) (f : List Ce) (n : Nat) (o : V) (B : List (Nat × List V)) (H1 : Hp), i ≤ s.length → OutP f o H1 → parB ⟨0, 0, []⟩ 0 s = parB ⟨x, y, f⟩ n (s.drop i) → (0 ≤ x ∧ x ≤ 2097152) → (0 ≤ y ∧ y ≤ 2097152) → f.length ≤ 5000 → n ≤ 2097152 → Run G c12_B1 (S12_1 (.m (.s s)) o (.m (.i .i64 x)) (.m (.i .i64 y)) (.m (.i .i64 (n : Int))) (.m (.i .i64 (i : Int))) B H1) _) 0 0 0 [] 0 _ _ _ (Nat.zero_le _) (.inl ⟨rfl, rfl, rfl⟩) rfl (by omega) (by omega) (by simp) (by omega)
  refine indM (fun i : Nat => s.length - i) fun i ih x y f n o B H1 hi ho hp hx hy hf hn => ?_
  have hvw := outP_v2 ho
  have hnf := (outP_view ho).2
  have hol := outP_ln ho
  unfold c12_B1
  cases hc : s[i]? with
  | none =>
   have : i = s.length := by have := List.getElem?_eq_none_iff.1 hc; omega
   subst this
   rw [List.drop_length] at hp
   have hp : parB ⟨0, 0, []⟩ 0 s = some f := hp
   have gc := outP_call (F := 10) rfl rfl ho (fun H => codeR_r (zP_sl f) (by omega) H) rfl
   by_cases h0 : cE f = 0
   ·by_cases ht : cT f = s
    ·obtain ⟨hic, hne, hr, hlg⟩ := code_is h0 ht h45
     have k := qok _ hic
     rcases ho with ⟨rfl, _, _⟩ | ⟨_, rfl, rfl⟩
     ·exact absurd rfl hne
     have hs := span_of hr hlg
     have g3 := img_r (isSl_sl (cells3 f)) hr hs 0 (by omega) []
     rw [show modS 0 = 0 from by decide, img_0 (right_pw hr).1] at g3
     have hvs : optMap (view 20 [Row.cs 43 3 (rows3 f) 0 false]) [V.sl 0 f.length 3 0 f.length false, .m (.i .i64 0)] = some [.sl (cells3 f), .i .i64 0] := by
      have := viewP (r := 0) (b := 0) (X := []) (A := []) (q := f) (n := f.length) rfl (Nat.zero_le _) 18
      show (view 20 _ _).bind _ = _
      rw [this]
      rfl
     have hfz : freeze ([V.sl 0 f.length 3 0 f.length false, .m (.i .i64 0)].flatMap refs) [Row.cs 43 3 (rows3 f) 0 false] = some [Row.cs 43 3 (rows3 f) 0 true] := by
      show Option.bind (gd ((rows3 f).all fun e => e.all isM) (some (Row.cs 43 3 (rows3 f) 0 true))) _ = _
      rw [rows3_isM]
      rfl
     have hfl : flatV (.m (zP (homeC f))) = false := by
      unfold zP
      rw [if_neg (fun h => hne (home_nil.1 h))]
      rfl
     have gF := gives_view_fr (is := [.sl (cells3 f), .i .i64 0]) rfl rfl g3 hvs (by simp [refs, ref1]) hfl rfl hfz
     generalize zP (homeC f) = zz at *
     simp (maxSteps := 2000000) (disch := omega) [gd_in, gd_and, wr_i64, hl, cl gc, h0, ht, cl gF]
     exact k
    ·have k := qno fun h2 hcc => by
      have := isCode_B hcc
      rw [this] at hp
      cases hp
      exact ht (is_code hcc hl).2
     simp (maxSteps := 2000000) (disch := omega) [gd_in, gd_and, wr_i64, hl, cl gc, h0, ht]
     exact k
   ·have k := qno fun h2 hcc => by
     have := isCode_B hcc
     rw [this] at hp
     cases hp
     exact h0 (is_code hcc hl).1
    simp (maxSteps := 2000000) (disch := omega) [gd_in, gd_and, wr_i64, hl, cl gc, h0]
    exact k
  | some c =>
   have hlt := (get_drop hc).1
   have hlt' : (i : Int) < s.length := by omega
   have hnn : nth s i = some c := by rw [nth_get]; exact hc
   have hc256 := hb c (List.mem_of_getElem? hc)
   have wi : wr .i64 ((i : Int) + 1) = ((i + 1 : Nat) : Int) := wr_i64 (by omega) (by omega)
   rw [(get_drop hc).2] at hp
   by_cases hdg : isDg c
   ·have hp2 : parB ⟨x, y, f⟩ n (c :: s.drop (i + 1)) = if 2097152 < 10 * n + (c - 48) then none else parB ⟨x, y, f⟩ (10 * n + (c - 48)) (s.drop (i + 1)) := by
     show (if isDg c then _ else _) = _
     rw [if_pos hdg]
    rw [hp2] at hp
    obtain ⟨c1, c2⟩ := hdg
    have c1' : (48 : Int) ≤ c := by omega
    have c2' : (c : Int) ≤ 57 := by omega
    have w8 : wr .u8 ((c : Int) - 48) = (c : Int) - 48 := wr_u8 (by omega) (by omega)
    have w9 : wr .i64 ((c : Int) - 48) = (c : Int) - 48 := wr_i64 (by omega) (by omega)
    have w10 : wr .i64 (10 * (n : Int)) = 10 * (n : Int) := wr_i64 (by omega) (by omega)
    obtain ⟨m, hm⟩ : ∃ m, m = 10 * n + (c - 48) := ⟨_, rfl⟩
    have w11 : wr .i64 (10 * (n : Int) + ((c : Int) - 48)) = (m : Int) := by rw [wr_i64 (by omega) (by omega)]; omega
    rw [← hm] at hp
    by_cases h7 : 2097152 < m
    ·have h7' : (2097152 : Int) < m := by omega
     rw [if_pos h7] at hp
     have k := qpar hp
     simp (maxSteps := 2000000) (disch := omega) [gd_in, gd_and, wr_i64, hlt, hlt', hnn, c1, c2, c1', c2', w8, w9, w10, w11, h7, h7', setC_v hnf]
     exact k
    ·have h7' : ¬ (2097152 : Int) < m := by omega
     rw [if_neg h7] at hp
     have k := ih (i + 1) (by omega) x y f m o B H1 (by omega) ho hp hx hy hf (by omega)
     simp (maxSteps := 2000000) (disch := omega) [gd_in, gd_and, wr_i64, hlt, hlt', hnn, c1, c2, c1', c2', w8, w9, w10, w11, h7, h7', wi, setC_v hnf, -Int.natCast_add]
     exact k
   ·rw [parB_at hdg] at hp
    obtain ⟨m, hm⟩ : ∃ m, m = max n 1 := ⟨_, rfl⟩
    have hm0 : max (n : Int) 1 = (m : Int) := by omega
    rw [← hm] at hp
    have hm7 : m ≤ 2097152 := by omega
    have z1 : wr .i64 ((f.length : Int) + (m : Int)) = ((f.length + m : Nat) : Int) := wr_i64 (by omega) (by omega)
    have z2 : wr .i64 (y + (m : Int)) = y + m := wr_i64 (by omega) (by omega)
    have z3 : wr .i64 (x + (m : Int)) = x + m := wr_i64 (by omega) (by omega)
    by_cases e36 : c = 36
    ·subst e36
     have hp : parB ⟨0, 0, []⟩ 0 s = if 2097152 < (0 : Int) ∨ 2097152 < y + (m : Int) then none else parB ⟨0, y + (m : Int), f⟩ 0 (s.drop (i + 1)) := hp
     by_cases ht : 2097152 < y + (m : Int)
     ·rw [if_pos (.inr ht)] at hp
      have k := qpar hp
      simp (maxSteps := 2000000) (disch := omega) [gd_in, gd_and, wr_i64, hlt, hlt', hnn, ht, hm0, z1, z2, z3, wi, hol, setC_v hnf, -Int.natCast_add]
      exact k
     ·rw [if_neg (by omega)] at hp
      have k := ih (i + 1) (by omega) 0 (y + (m : Int)) f 0 o B H1 (by omega) ho hp (by omega) (by omega) hf (by omega)
      simp (maxSteps := 2000000) (disch := omega) [gd_in, gd_and, wr_i64, hlt, hlt', hnn, ht, hm0, z1, z2, z3, wi, hol, setC_v hnf, -Int.natCast_add]
      exact k
    have e36' : ¬ (c : Int) = 36 := by omega
    by_cases e46 : c = 46
    ·subst e46
     have hp : parB ⟨0, 0, []⟩ 0 s = if 2097152 < x + (m : Int) ∨ 2097152 < y then none else parB ⟨x + (m : Int), y, f⟩ 0 (s.drop (i + 1)) := hp
     by_cases ht : 2097152 < x + (m : Int)
     ·rw [if_pos (.inl ht)] at hp
      have k := qpar hp
      simp (maxSteps := 2000000) (disch := omega) [gd_in, gd_and, wr_i64, hlt, hlt', hnn, ht, hm0, z1, z2, z3, wi, hol, setC_v hnf, -Int.natCast_add]
      exact k
     ·rw [if_neg (by omega)] at hp
      have hty : ¬ 2097152 < y := by omega
      have k := ih (i + 1) (by omega) (x + (m : Int)) y f 0 o B H1 (by omega) ho hp (by omega) (by omega) hf (by omega)
      simp (maxSteps := 2000000) (disch := omega) [gd_in, gd_and, wr_i64, hlt, hlt', hnn, ht, hty, hm0, z1, z2, z3, wi, hol, setC_v hnf, -Int.natCast_add]
      exact k
    have e46' : ¬ (c : Int) = 46 := by omega
    by_cases hcl : 65 ≤ c ∧ c ≤ 71
    ·rw [lix_cell hcl] at hp
     dsimp only at hp
     have k1 : (48 : Int) ≤ c := by omega
     have k1n : 48 ≤ c := by omega
     have k2 : ¬ (c : Int) ≤ 57 := by omega
     have k2n : ¬ c ≤ 57 := by omega
     have k3 : (65 : Int) ≤ c := by omega
     have k3n : 65 ≤ c := by omega
     have k4 : (c : Int) ≤ 71 := by omega
     have k4n : c ≤ 71 := by omega
     by_cases hbig : f.length + m ≤ 5000
     ·have hbig' : ((f.length + m : Nat) : Int) ≤ 5000 := by omega
      rw [if_neg (by omega), show act ⟨x, y, f⟩ (m : Int) ((c : Int) - 64) = ⟨x + m, y, f ++ cellsN x y ((c : Int) - 64) m⟩ from by unfold act; rw [if_neg (by omega), if_neg (by omega)]; rfl] at hp
      dsimp only at hp
      simp (maxSteps := 2000000) (disch := omega) [gd_in, gd_and, wr_i64, hlt, hlt', hnn, e36, e36', e46, e46', k1, k1n, k2, k2n, k3, k3n, k4, k4n, hm0, z1, z2, z3, wi, hol, setC_v hnf, hbig, hbig', -Int.natCast_add]
      refine fill_r _ x y c m f _ _ hx hcl (by omega) hbig (fun o2 B2 H2 ho2 => ?_) 0 o B H1 (Nat.zero_le _) (by simp only [cellsN, List.append_nil]; exact ho)
      have hn2 := (outP_view ho2).2
      have hty : ¬ 2097152 < y := by omega
      by_cases ht : 2097152 < x + (m : Int)
      ·rw [if_pos (.inl ht)] at hp
       have k := qpar hp
       simp (maxSteps := 2000000) (disch := omega) [gd_in, gd_and, wr_i64, z3, ht, setC_v hn2]
       exact k
      ·rw [if_neg (by omega)] at hp
       have k := ih (i + 1) (by omega) (x + (m : Int)) y _ 0 o2 B2 H2 (by omega) ho2 hp (by omega) (by omega) (by rw [fit_len]; exact hbig) (by omega)
       simp (maxSteps := 2000000) (disch := omega) [gd_in, gd_and, wr_i64, z3, ht, hty, wi, setC_v hn2, -Int.natCast_add]
       exact k
     ·have hbig' : ¬ ((f.length + m : Nat) : Int) ≤ 5000 := by omega
      rw [if_pos (by omega)] at hp
      have k := qpar hp
      simp (maxSteps := 2000000) (disch := omega) [gd_in, gd_and, wr_i64, hlt, hlt', hnn, e36, e36', e46, e46', k1, k1n, k2, k2n, k3, k3n, k4, k4n, hm0, z1, z2, z3, wi, hol, setC_v hnf, hbig, hbig', -Int.natCast_add]
      exact k
    rw [lix_none e46 e36 hcl] at hp
    have k := qpar hp
    by_cases h : ¬ 48 ≤ c
    ·have k1 : ¬ (48 : Int) ≤ c := by omega
     have k3 : ¬ (65 : Int) ≤ c := by omega
     have k3n : ¬ 65 ≤ c := by omega
     simp (maxSteps := 2000000) (disch := omega) [gd_in, gd_and, wr_i64, hlt, hlt', hnn, e36, e36', e46, e46', h, k1, k3, k3n, hm0, z1, z2, z3, wi, hol, setC_v hnf, -Int.natCast_add]
     exact k
    by_cases h : 48 ≤ c ∧ ¬ 65 ≤ c
    ·have k0 : 48 ≤ c := by omega
     have k1 : (48 : Int) ≤ c := by omega
     have k2 : ¬ (c : Int) ≤ 57 := by have := hdg; unfold isDg at this; omega
     have k2n : ¬ c ≤ 57 := by have := hdg; unfold isDg at this; omega
     have k3 : ¬ (65 : Int) ≤ c := by omega
     have k3n : ¬ 65 ≤ c := by omega
     simp (maxSteps := 2000000) (disch := omega) [gd_in, gd_and, wr_i64, hlt, hlt', hnn, e36, e36', e46, e46', k0, k1, k2, k2n, k3, k3n, hm0, z1, z2, z3, wi, hol, setC_v hnf, -Int.natCast_add]
     exact k
    have h : 65 ≤ c := by omega
    have k0 : 48 ≤ c := by omega
    have k1 : (48 : Int) ≤ c := by omega
    have k2 : ¬ (c : Int) ≤ 57 := by have := hdg; unfold isDg at this; omega
    have k2n : ¬ c ≤ 57 := by have := hdg; unfold isDg at this; omega
    have k3 : (65 : Int) ≤ c := by omega
    have k4 : ¬ (c : Int) ≤ 71 := by omega
    have k4n : ¬ c ≤ 71 := by omega
    simp (maxSteps := 2000000) (disch := omega) [gd_in, gd_and, wr_i64, hlt, hlt', hnn, e36, e36', e46, e46', h, k0, k1, k2, k2n, k3, k4, k4n, hm0, z1, z2, z3, wi, hol, setC_v hnf, -Int.natCast_add]
    exact k
 obtain ⟨x, H', h1, rfl, h2⟩ := key
 exact ⟨x, h2, h1⟩
end Go.Mx.Tryd
namespace Go.Mx.Tryd
open Go.Sort Go.Lib Go.Proofs

theorem row_call {F : Nat} {l : List Ce} {x : V} (hp : G.prim F = none) (hs : G.sh F = false) (h : Gives G F [.m (.sl (cells3 l))] [] x []) : ∃ H2, Gives G F [.sl 0 l.length 3 0 l.length false] [Row.cs 43 3 (rows3 l) 0 false] x H2 := by
 have hv : optMap (view 20 [Row.cs 43 3 (rows3 l) 0 false]) [V.sl 0 l.length 3 0 l.length false] = some [.sl (cells3 l)] := by
  have := viewP (r := 0) (b := 0) (X := []) (A := []) (q := l) (n := l.length) rfl (Nat.zero_le _) 18
  show (view 20 _ _).bind _ = _
  rw [this]
  rfl
 cases hf : flatV x with
 | true => exact ⟨_, gives_view (is := [.sl (cells3 l)]) hp hs h hv (.inr ⟨by simp [refs, ref1], hf⟩)⟩
 | false =>
  have hfz : freeze ([V.sl 0 l.length 3 0 l.length false].flatMap refs) [Row.cs 43 3 (rows3 l) 0 false] = some [Row.cs 43 3 (rows3 l) 0 true] := by
   show Option.bind (gd ((rows3 l).all fun e => e.all isM) (some (Row.cs 43 3 (rows3 l) 0 true))) _ = _
   rw [rows3_isM]
   rfl
  exact ⟨_, gives_view_fr (is := [.sl (cells3 l)]) hp hs h hv (by simp [refs, ref1]) hf rfl hfz⟩
theorem immS_cells (l : List Ce) : immS (cells3 l) = rows3 l := by
 unfold immS cells3 rows3
 rw [List.map_map]
 rfl
theorem clone_c {l : List Ce} (hne : l ≠ []) (hl : l.length ≤ 1000000) : Gives G 31 [.m (.sl (cells3 l))] [] (.sl 0 l.length 3 0 l.length false) [Row.cs 43 3 (rows3 l) 0 false] := by
 refine .of_ret (ret_sh mono rfl rfl rfl rfl rfl ?_)
 have hnil : isNil 4 (.m (.sl (cells3 l))) = some false := rfl
 have ha : ∀ B, loudX (fun _ _ _ => none) ⟨B, []⟩ (.app 43 3 24) [.ls [], .m (.sl (cells3 l))] = some (.sl 0 l.length 3 0 l.length false, ⟨B, [Row.cs 43 3 (rows3 l) 0 false]⟩) := fun B => by
  obtain ⟨c, r, rfl⟩ := List.exists_cons_of_ne_nil hne
  show newRow ⟨B, []⟩ 43 3 24 (immS (cells3 (c :: r))) = _
  rw [immS_cells]
  have h1 : Nat.ble ((rows3 (c :: r)).length * 24) 140737488355328 = true := by rw [ble_dec]; exact decide_eq_true (by rw [rows3_len]; omega)
  have h2 : ((rows3 (c :: r)).all fun e => Nat.beq e.length 3 && e.all oneV) = true := by
   unfold rows3
   rw [List.all_map, List.all_eq_true]
   exact fun _ _ => rfl
  unfold newRow
  rw [h1, h2, rows3_len]
  rfl
 simp [hnil, -loud_app, ha]
theorem bad_e : ∀ {p : List Ce} {e : Int}, bad p = some e → ¬ e = 0
 | [], _, h => by cases h
 | c :: r, e, h => by
  have e2 : bad (c :: r) = match badC c with | some e => some e | none => bad r := rfl
  rw [e2] at h
  cases hc : badC c with
  | some e' =>
   rw [hc] at h
   cases h
   unfold badC at hc
   split at hc
   ·cases hc; decide
   ·split at hc
    ·cases hc; decide
    ·cases hc
  | none => rw [hc] at h; exact bad_e h
theorem liv_good {p : List Ce} (h : ∀ c, c ∈ p → good c = true) : liv p = p := by
 unfold liv
 rw [List.filter_eq_self]
 intro c hc
 have := good_bnd (h c hc)
 exact decide_eq_true (by omega)
set_option maxHeartbeats 4000000 in
theorem decode_s (s : List Nat) (hb : ∀ c, c ∈ s → c < 256) (hl : s.length ≤ 65536) (h45 : ¬ s = [45]) (H : Hp) : ∃ x, DecQ s x ∧ Gives G 11 [.m (.s s)] H x H := by
 have key : ∃ x H', Gives G 11 [.m (.s s)] H x H' ∧ (H' = H ∧ DecQ s x) := by
  refine gives_of_ret ?_
  refine ret_pur rfl rfl rfl rfl rfl ?_
  generalize hQ : (fun (x : V) (H' : Hp) => H' = H ∧ DecQ s x) = Q
  have qno : (∀ h, ¬ IsCode s h) → Q (.tu [.m (.nl 4), .m (.i .i64 15)]) H := fun h => by rw [← hQ]; exact ⟨rfl, .inr ⟨h, rfl⟩⟩
  have qok : ∀ h, IsCode s h → Q (.tu [.m (zP h), .m (.i .i64 0)]) H := fun h hc => by rw [← hQ]; exact ⟨rfl, .inl ⟨h, hc, rfl⟩⟩
  clear hQ
  have hl' : ¬ (65536 : Int) < s.length := by omega
  have hl'' : ¬ 65536 < s.length := by omega
  obtain ⟨w, hw, g1⟩ := cells_s s hb (by omega) []
  cases hp : parA ⟨0, 0, []⟩ 0 0 s with
  | none =>
   rw [hp] at g1
   have k := qno fun h hc => by rw [isCode_A hc] at hp; cases hp
   simp (maxSteps := 2000000) (disch := omega) [gd_in, gd_and, wr_i64, gcall_cx, hl', hl'', h45, cl g1]
   exact k
  | some l =>
   have hwl := hw l hp
   subst hwl
   rw [hp] at g1
   by_cases hl0 : l = []
   ·have k := qno fun h hc => by
     have := isCode_A hc
     rw [hp] at this
     cases this
     exact hc.ne hl0
    subst hl0
    have hz0 : zP [] = .nl 4 := rfl
    simp (maxSteps := 2000000) (disch := omega) [gd_in, gd_and, wr_i64, gcall_cx, hl', hl'', h45, cl g1, hz0]
    exact k
   ·have hz : zP l = .sl (cells3 l) := by unfold zP; rw [if_neg hl0]
    rw [hz] at g1
    have hll : l.length ≤ 1000000 := by
     have := parA_len s 0 0 ⟨0, 0, []⟩ l (by simp) hp
     omega
    have hlen : ¬ (l.length : Int) = 0 := fun h => hl0 (List.eq_nil_of_length_eq_zero (by omega))
    have hrl := (isSl_sl (cells3 l)).rules
    simp only [show (cells3 l).length = l.length from by simp [cells3]] at hrl
    have g2 := clone_c hl0 hll
    rcases from_w (isSl_sl (cells3 l)) hll [] with ⟨e, he, g3⟩ | ⟨he, q, hq, ha, g3⟩
    ·have e0 := bad_e he
     obtain ⟨H2, g4⟩ := row_call rfl rfl g3
     have k := qno fun h hc => by
      have := isCode_A hc
      rw [hp] at this
      cases this
      rw [bad_good (right_pw hc.r).2.1] at he
      cases he
     simp (maxSteps := 2000000) (disch := omega) [gd_in, gd_and, wr_i64, gcall_cx, hl', hl'', h45, cl g1, hrl, hl0, hlen, cl g2, cl g4, e0]
     exact k
    ·obtain ⟨H2, g4⟩ := row_call rfl rfl g3
     by_cases hex : ∃ h, IsCode s h
     ·obtain ⟨h, hc⟩ := hex
      have hlh := isCode_A hc
      rw [hp] at hlh
      cases hlh
      have hpw := right_pw hc.r
      rw [liv_good hpw.2.1] at hq
      have hqh : q = l := pw_uniq hpw.1 (asc_pw ha (apart_perm hq (pw_apart hpw.1))) hq
      subst hqh
      have hres : resP q = .tu [.m (zP q), .m (.i .i64 0)] := by
       unfold resP
       rw [tw_pw hpw.1, if_neg (by simp), if_neg (by have := hpw.2.2; omega)]
      rw [hres, hz] at g4
      obtain ⟨i1, i2⟩ := is_code hc hl
      have g5 := fun H => codeS_s (isSl_sl (cells3 q)) hll H
      rw [i1, i2] at g5
      have k := qok q hc
      rw [hz] at k
      simp (maxSteps := 2000000) (disch := omega) [gd_in, gd_and, wr_i64, gcall_cx, hl', hl'', h45, cl g1, hrl, hl0, hlen, cl g2, cl g4, cl (g5 _)]
      exact k
     ·have hno : ∀ h, ¬ IsCode s h := fun h hc => hex ⟨h, hc⟩
      have k := qno hno
      unfold resP at g4
      by_cases ht : tw q = true
      ·rw [if_pos ht] at g4
       simp (maxSteps := 2000000) (disch := omega) [gd_in, gd_and, wr_i64, gcall_cx, hl', hl'', h45, cl g1, hrl, hl0, hlen, cl g2, cl g4]
       exact k
      ·rw [if_neg ht] at g4
       by_cases h5 : 5000 < q.length
       ·rw [if_pos h5] at g4
        simp (maxSteps := 2000000) (disch := omega) [gd_in, gd_and, wr_i64, gcall_cx, hl', hl'', h45, cl g1, hrl, hl0, hlen, cl g2, cl g4]
        exact k
       ·rw [if_neg h5] at g4
        have g5 := fun H => codeS_s (zP_sl q) (by omega) H
        by_cases h0 : cE q = 0
        ·by_cases hts : cT q = s
         ·exact absurd (code_is h0 hts h45).1 (hno _)
         ·simp (maxSteps := 2000000) (disch := omega) [gd_in, gd_and, wr_i64, gcall_cx, hl', hl'', h45, cl g1, hrl, hl0, hlen, cl g2, cl g4, cl (g5 _), h0, hts]
          exact k
        ·simp (maxSteps := 2000000) (disch := omega) [gd_in, gd_and, wr_i64, gcall_cx, hl', hl'', h45, cl g1, hrl, hl0, hlen, cl g2, cl g4, cl (g5 _), h0]
         exact k
 obtain ⟨x, H', h1, rfl, h2⟩ := key
 exact ⟨x, h2, h1⟩
theorem decode_both (s : List Nat) (hb : ∀ c, c ∈ s → c < 256) (hl : s.length ≤ 65536) : ∃ x, (s = [45] ∧ x = V.tu [.m (.nl 4), .m (.i .i64 0)] ∨ ¬ s = [45] ∧ DecQ s x) ∧ ∀ H, Gives G 11 [.m (.s s)] H x H ∧ Gives G 12 [.m (.s s)] H x H := by
 by_cases h45 : s = [45]
 ·refine ⟨_, .inl ⟨h45, rfl⟩, fun H => ⟨?_, ?_⟩⟩
  ·subst h45
   refine gives_pur rfl rfl rfl rfl rfl ?_
   simp (maxSteps := 2000000) (disch := omega) [gd_in, gd_and, wr_i64, ]
  ·subst h45
   refine gives_pur rfl rfl rfl rfl rfl ?_
   simp (maxSteps := 2000000) (disch := omega) [gd_in, gd_and, wr_i64, ]
 ·obtain ⟨x, hx, _⟩ := decode_r s hb hl h45 []
  refine ⟨x, .inr ⟨h45, hx⟩, fun H => ?_⟩
  obtain ⟨y, hy, g1⟩ := decode_s s hb hl h45 H
  obtain ⟨z, hz, g2⟩ := decode_r s hb hl h45 H
  rw [decQ_uniq hx hy]
  refine ⟨g1, ?_⟩
  rw [decQ_uniq hy hz]
  exact g2
end Go.Mx.Tryd
namespace Go.Mx.Tryd
open Go.Sort Go.Lib Go.Proofs

theorem same_refl {v w : I} {l : List Ce} (hv : IsSl v (cells3 l)) (hw : IsSl w (cells3 l)) (hl : l.length ≤ 1000000) (H : Hp) : Gives G 13 [.m v, .m w] H (.m (.b true)) H := by
 have := refSame_r hv hw hl hl H
 rw [show decide (cmpL l l = 0) = true from decide_eq_true (cmpL_0.2 rfl)] at this
 exact this
theorem dec_form {s : List Nat} {x : V} (h : (s = [45] ∧ x = V.tu [.m (.nl 4), .m (.i .i64 0)]) ∨ (¬ s = [45] ∧ DecQ s x)) : ∃ (w : I) (h : List Ce) (e : Int), IsSl w (cells3 h) ∧ h.length ≤ 5000 ∧ x = .tu [.m w, .m (.i .i64 e)] ∧ ((e = 0 ∧ s = [45] ∧ h = []) ∨ (e = 0 ∧ IsCode s h) ∨ (e = 15 ∧ h = [])) := by
 rcases h with ⟨h1, rfl⟩ | ⟨h1, ⟨h, hc, rfl⟩ | ⟨_, rfl⟩⟩
 ·exact ⟨.nl 4, [], 0, isSl_nil, by simp, rfl, .inl ⟨rfl, h1, rfl⟩⟩
 ·exact ⟨zP h, h, 0, zP_sl h, (right_pw hc.r).2.2, rfl, .inr (.inl ⟨rfl, hc⟩)⟩
 ·exact ⟨.nl 4, [], 15, isSl_nil, by simp, rfl, .inr (.inr ⟨rfl, rfl⟩)⟩
theorem law_codes (gw : Gives G 8 [] [] (.m (.b true)) []) {v : I} {p : List Ce} {s : List Nat} (hv : IsSl v (cells3 p)) (hb : ∀ c, c ∈ s → c < 256) : Gives G 3 [.m v, .m (.s s)] [] (.m (.b true)) [] := by
 have gf := fun H => few_l hv H
 refine gives_pur rfl rfl rfl rfl rfl ?_
 by_cases hfew : (p.length : Int) ≤ 300
 ·rw [decide_eq_true hfew] at gf
  by_cases h20x : s.length ≤ 1000
  ·have h20 : ¬ (1000 : Int) < s.length := by omega
   have h20n : ¬ 1000 < s.length := by omega
   have g1 := fun H => codeS_s hv (by omega) H
   have g2 := fun H => codeR_r hv (by omega) H
   obtain ⟨x, hx, hd⟩ := decode_both s hb (by omega)
   obtain ⟨w, h, e, hw, hhl, rfl, _⟩ := dec_form hx
   have g3 := fun H => (hd H).1
   have g4 := fun H => (hd H).2
   have g5 := fun H => same_refl hw hw (by omega) H
   have c1 := isSl_cel hw
   simp (maxSteps := 2000000) (disch := omega) [gd_in, gd_and, wr_i64, gcall_cx, cl (gf _), h20, h20n, cl (g1 _), cl (g2 _), cl (g3 _), cl (g4 _), cl (g5 _), cl gw]
  ·have h20 : (1000 : Int) < s.length := by omega
   have h20n : 1000 < s.length := by omega
   simp (maxSteps := 2000000) (disch := omega) [gd_in, gd_and, wr_i64, gcall_cx, cl (gf _), h20, h20n, cl gw]
 ·rw [decide_eq_false hfew] at gf
  simp (maxSteps := 2000000) (disch := omega) [gd_in, gd_and, wr_i64, gcall_cx, cl (gf _), cl gw]
theorem canon_codes (us : List V) (h : ArgsOk Go.Proofs.Tryd.prog maxLen 8 Go.Proofs.Tryd.f3.params.toList us) : Gives G 3 us [] (.m (.b true)) [] := by
 have e : Go.Proofs.Tryd.f3.params.toList = [23, 9] := by rw [Go.Proofs.Tryd.params3]
 have h := e ▸ h
 obtain ⟨p, v, _, hv, hl, rfl, h1⟩ := arg_pat h
 obtain ⟨s, _, rfl, hsl, hsb, h2⟩ := arg_strC h1
 have := argsOk_nil h2
 subst this
 exact law_codes gives_awake hv hsb
theorem rle_byte : ∀ (ps : List (Int × Int)) (n last : Int), (∀ q, q ∈ ps → 0 ≤ q.2 ∧ q.2 ≤ 8) → (last = -1 ∨ (0 ≤ last ∧ last ≤ 8)) → ∀ c, c ∈ rle n last ps → c < 256
 | [], n, last, _, hl, c, hc => by
  have hc : c ∈ (if last = -1 then [] else txt1 n last) := hc
  rcases hl with h | h
  ·rw [if_pos h] at hc; cases hc
  ·rw [if_neg (by omega)] at hc
   unfold txt1 at hc
   rcases List.mem_append.1 hc with hc | hc
   ·split at hc
    ·exact itoaN_byte n c hc
    ·cases hc
   ·rw [List.mem_singleton.1 hc]
    exact lett_lt h.1 h.2
 | q :: r, n, last, h, hl, c, hc => by
  have hc : c ∈ (if q.2 = last then rle (n + q.1) last r else (if 0 ≤ last then txt1 n last else []) ++ rle q.1 q.2 r) := hc
  have hq := h q (List.mem_cons_self ..)
  have hr : ∀ x, x ∈ r → 0 ≤ x.2 ∧ x.2 ≤ 8 := fun x hx => h x (List.mem_cons_of_mem _ hx)
  split at hc
  ·exact rle_byte r _ _ hr hl c hc
  ·rcases List.mem_append.1 hc with hc | hc
   ·split at hc
    ·rename_i h0
     unfold txt1 at hc
     rcases List.mem_append.1 hc with hc | hc
     ·split at hc
      ·exact itoaN_byte n c hc
      ·cases hc
     ·rw [List.mem_singleton.1 hc]
      exact lett_lt h0 (by omega)
    ·cases hc
   ·exact rle_byte r _ _ hr (.inr hq) c hc
theorem okPs_mem : ∀ {ps : List (Int × Int)} {st : PS}, okPs st ps → ∀ q, q ∈ ps → 0 ≤ q.2 ∧ q.2 ≤ 8
 | [], _, _, q, hq => by cases hq
 | p :: r, st, h, q, hq => by
  rcases List.mem_cons.1 hq with rfl | hq
  ·exact h.1.2
  ·exact okPs_mem h.2.2 q hq
theorem codeS_byte {p : List Ce} (hr : right p = true) (hlg : largeC p = false) : ∀ c, c ∈ codeS p → c < 256 := fun c hc => by
 unfold codeS at hc
 split at hc
 ·rw [List.mem_singleton.1 hc]; decide
 ·have ha := home_aft hr (span_of hr hlg)
  have hl := (right_pw hr).2.2
  have hk := (fold_pcs (homeC p) 0 0 [] ha ⟨⟨by decide, by decide⟩, ⟨by decide, by decide⟩, by simp⟩ (by rw [home_len]; simpa using hl)).1
  exact rle_byte _ _ _ (okPs_mem hk) (.inl rfl) c hc
theorem codeT_ne {p : List Ce} (hr : right p = true) (hlg : largeC p = false) (hne : p ≠ []) : codeT (homeC p) ≠ [45] := fun h => by
 have hh := home_right hr hlg
 have hc : IsCode [45] (homeC p) := ⟨hh.1, hh.2, home_home p, fun h => hne (home_nil.1 h), h⟩
 have := isCode_A hc
 cases this
theorem codeS_inj {p q : List Ce} (hp : right p = true) (hpl : largeC p = false) (hq : right q = true) (hql : largeC q = false) : codeS p = codeS q ↔ homeC p = homeC q := by
 constructor
 ·intro h
  unfold codeS at h
  by_cases h1 : p = []
  ·by_cases h2 : q = []
   ·rw [h1, h2]
   ·rw [if_pos h1, if_neg h2] at h
    exact absurd h.symm (codeT_ne hq hql h2)
  ·by_cases h2 : q = []
   ·rw [if_neg h1, if_pos h2] at h
    exact absurd h (codeT_ne hp hpl h1)
   ·rw [if_neg h1, if_neg h2] at h
    have a := home_right hp hpl
    have b := home_right hq hql
    exact isCode_uniq (s := codeT (homeC p)) ⟨a.1, a.2, home_home p, fun h => h1 (home_nil.1 h), rfl⟩ ⟨b.1, b.2, home_home q, fun h => h2 (home_nil.1 h), h.symm⟩
 ·intro h
  rw [codeS_eq, codeS_eq, h]
theorem dec_code {p : List Ce} (h0 : cE p = 0) : right p = true ∧ largeC p = false ∧ cT p = codeS p ∧ ∀ H, Gives G 11 [.m (.s (codeS p))] H (.tu [.m (zP (homeC p)), .m (.i .i64 0)]) H := by
 have he : formE p = none := by
  cases he : formE p with
  | none => rfl
  | some e =>
   have e1 : cE p = e := by unfold cE; rw [he]
   rcases formE_cases he with ⟨_, rfl⟩ | ⟨_, _, rfl⟩ <;> rw [e1] at h0 <;> cases h0
 obtain ⟨hr, hlg⟩ := formE_none he
 have e2 : cT p = codeS p := by unfold cT; rw [if_pos h0]
 have hlen : (codeS p).length ≤ 65536 := by
  unfold cE at h0
  rw [he] at h0
  dsimp only at h0
  split at h0
  ·cases h0
  ·omega
 refine ⟨hr, hlg, e2, fun H => ?_⟩
 obtain ⟨x, hx, hd⟩ := decode_both (codeS p) (codeS_byte hr hlg) hlen
 have hg := (hd H).1
 by_cases hp : p = []
 ·have e3 : codeS p = [45] := by unfold codeS; rw [if_pos hp]
  rcases hx with ⟨_, rfl⟩ | ⟨h45, _⟩
  ·subst hp; exact hg
  ·exact absurd e3 h45
 ·have e3 : codeS p = codeT (homeC p) := by unfold codeS; rw [if_neg hp]
  have hh := home_right hr hlg
  have hic : IsCode (codeS p) (homeC p) := ⟨hh.1, hh.2, home_home p, fun h => hp (home_nil.1 h), e3.symm⟩
  rcases hx with ⟨h45, _⟩ | ⟨_, ⟨h, hc, rfl⟩ | ⟨hn, _⟩⟩
  ·exact absurd (e3.symm.trans h45) (codeT_ne hr hlg hp)
  ·rw [← isCode_uniq hc hic]; exact hg
  ·exact absurd hic (hn _)
theorem imgR_0 {v : I} {p : List Ce} (hv : IsSl v (cells3 p)) (hr : right p = true) (hlg : largeC p = false) (H : Hp) : Gives G 17 [.m v, .m (.i .i64 0)] H (.m (zP (homeC p))) H := by
 have g3 := img_r hv hr (span_of hr hlg) 0 (by omega) H
 rw [show modS 0 = 0 from by decide, img_0 (right_pw hr).1] at g3
 exact g3
set_option maxHeartbeats 4000000 in
theorem law_round (gw : Gives G 8 [] [] (.m (.b true)) []) {v z : I} {p q : List Ce} {s : List Nat} (hv : IsSl v (cells3 p)) (hz : IsSl z (cells3 q)) (hb : ∀ c, c ∈ s → c < 256) : Gives G 5 [.m v, .m z, .m (.s s)] [] (.m (.b true)) [] := by
 have gf := fun H => few_l hv H
 have gf2 := fun H => few_l hz H
 refine gives_pur rfl rfl rfl rfl rfl ?_
 by_cases hfew : (p.length : Int) ≤ 300
 ·rw [decide_eq_true hfew] at gf
  by_cases hfew2 : (q.length : Int) ≤ 300
  ·rw [decide_eq_true hfew2] at gf2
   by_cases h20x : s.length ≤ 1000
   ·have h20 : ¬ (1000 : Int) < s.length := by omega
    have h20n : ¬ 1000 < s.length := by omega
    have g1 := fun H => codeS_s hv (by omega) H
    have g2 := fun H => codeS_s hz (by omega) H
    obtain ⟨x, hx, hd⟩ := decode_both s hb (by omega)
    obtain ⟨w, h, e, hw, hhl, rfl, hcs⟩ := dec_form hx
    have g3 := fun H => (hd H).1
    have c1 := isSl_cel hw
    have hend : e = 0 → ∀ H, Gives G 9 [.m w] H (.tu [.m (.s s), .m (.i .i64 0)]) H := fun he H => by
     have gg := codeS_s hw (by omega) H
     rcases hcs with ⟨_, h1, h2⟩ | ⟨_, hc⟩ | ⟨h1, _⟩
     ·rw [h1]
      rw [h2] at gg
      exact gg
     ·obtain ⟨a1, a2⟩ := is_code hc (by omega)
      rw [a1, a2] at gg
      exact gg
     ·rw [he] at h1; cases h1
    have he0 : e = 0 ∨ ¬ e = 0 := by omega
    by_cases hp0 : cE p = 0
    ·obtain ⟨hpr, hpl, hpc, g4⟩ := dec_code hp0
     have g5 := fun H => imgR_0 hv hpr hpl H
     have hhl2 := home_len p
     have g6 := fun H => same_refl (zP_sl (homeC p)) (zP_sl (homeC p)) (by omega) H
     have cz := isSl_cel (zP_sl (homeC p))
     by_cases hq0 : cE q = 0
     ·obtain ⟨hqr, hql, hqc, _⟩ := dec_code hq0
      have g7 := fun H => imgR_0 hz hqr hql H
      have hhl3 := home_len q
      have g8 := fun H => refSame_r (zP_sl (homeC p)) (zP_sl (homeC q)) (by omega) (by omega) H
      have hinj := codeS_inj hpr hpl hqr hql
      rw [hpc, hp0] at g1
      rw [hqc, hq0] at g2
      by_cases heq : codeS p = codeS q
      ·rw [show decide (cmpL (homeC p) (homeC q) = 0) = true from decide_eq_true (cmpL_0.2 (hinj.1 heq))] at g8
       rw [← heq] at g2
       rcases he0 with he | he
       ·have g9 := fun H => hend he H
        subst he
        simp (maxSteps := 2000000) (disch := omega) [gd_in, gd_and, wr_i64, gcall_cx, cl (gf _), cl (gf2 _), h20, h20n, cl (g1 _), cl (g2 _), cl (g4 _), cl (g5 _), cl (g6 _), cl (g7 _), cl (g8 _), cl (g3 _), cl (g9 _), cl gw]
       ·simp (maxSteps := 2000000) (disch := omega) [gd_in, gd_and, wr_i64, gcall_cx, cl (gf _), cl (gf2 _), h20, h20n, cl (g1 _), cl (g2 _), cl (g4 _), cl (g5 _), cl (g6 _), cl (g7 _), cl (g8 _), cl (g3 _), he, cl gw]
      ·rw [show decide (cmpL (homeC p) (homeC q) = 0) = false from decide_eq_false (fun h => heq (hinj.2 (cmpL_0.1 h)))] at g8
       rcases he0 with he | he
       ·have g9 := fun H => hend he H
        subst he
        simp (maxSteps := 2000000) (disch := omega) [gd_in, gd_and, wr_i64, gcall_cx, cl (gf _), cl (gf2 _), h20, h20n, cl (g1 _), cl (g2 _), cl (g4 _), cl (g5 _), cl (g6 _), heq, cl (g7 _), cl (g8 _), cl (g3 _), cl (g9 _), cl gw]
       ·simp (maxSteps := 2000000) (disch := omega) [gd_in, gd_and, wr_i64, gcall_cx, cl (gf _), cl (gf2 _), h20, h20n, cl (g1 _), cl (g2 _), cl (g4 _), cl (g5 _), cl (g6 _), heq, cl (g7 _), cl (g8 _), cl (g3 _), he, cl gw]
     ·rw [hpc, hp0] at g1
      rcases he0 with he | he
      ·have g9 := fun H => hend he H
       subst he
       simp (maxSteps := 2000000) (disch := omega) [gd_in, gd_and, wr_i64, gcall_cx, cl (gf _), cl (gf2 _), h20, h20n, cl (g1 _), cl (g2 _), hq0, cl (g4 _), cl (g5 _), cl (g6 _), cl (g3 _), cl (g9 _), cl gw]
      ·simp (maxSteps := 2000000) (disch := omega) [gd_in, gd_and, wr_i64, gcall_cx, cl (gf _), cl (gf2 _), h20, h20n, cl (g1 _), cl (g2 _), hq0, cl (g4 _), cl (g5 _), cl (g6 _), cl (g3 _), he, cl gw]
    ·rcases he0 with he | he
     ·have g9 := fun H => hend he H
      subst he
      simp (maxSteps := 2000000) (disch := omega) [gd_in, gd_and, wr_i64, gcall_cx, cl (gf _), cl (gf2 _), h20, h20n, cl (g1 _), cl (g2 _), hp0, cl (g3 _), cl (g9 _), cl gw]
     ·simp (maxSteps := 2000000) (disch := omega) [gd_in, gd_and, wr_i64, gcall_cx, cl (gf _), cl (gf2 _), h20, h20n, cl (g1 _), cl (g2 _), hp0, cl (g3 _), he, cl gw]
   ·have h20 : (1000 : Int) < s.length := by omega
    have h20n : 1000 < s.length := by omega
    simp (maxSteps := 2000000) (disch := omega) [gd_in, gd_and, wr_i64, gcall_cx, cl (gf _), cl (gf2 _), h20, h20n, cl gw]
  ·rw [decide_eq_false hfew2] at gf2
   simp (maxSteps := 2000000) (disch := omega) [gd_in, gd_and, wr_i64, gcall_cx, cl (gf _), cl (gf2 _), cl gw]
 ·rw [decide_eq_false hfew] at gf
  simp (maxSteps := 2000000) (disch := omega) [gd_in, gd_and, wr_i64, gcall_cx, cl (gf _), cl gw]
theorem canon_round (us : List V) (h : ArgsOk Go.Proofs.Tryd.prog maxLen 8 Go.Proofs.Tryd.f5.params.toList us) : Gives G 5 us [] (.m (.b true)) [] := by
 have e : Go.Proofs.Tryd.f5.params.toList = [23, 23, 9] := by rw [Go.Proofs.Tryd.params5]
 have h := e ▸ h
 obtain ⟨p, v, _, hv, hl, rfl, h1⟩ := arg_pat h
 obtain ⟨q, z, _, hz, hl2, rfl, h2⟩ := arg_pat h1
 obtain ⟨s, _, rfl, hsl, hsb, h3⟩ := arg_strC h2
 have := argsOk_nil h3
 subst this
 exact law_round gives_awake hv hz hsb
end Go.Mx.Tryd
