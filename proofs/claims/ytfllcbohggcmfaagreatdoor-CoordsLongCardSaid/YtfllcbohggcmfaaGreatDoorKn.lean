/- coords.Text at the machine; the lines of a text. -/
import Derived.Test.YtfllcbohggcmfaaGreatDoorKh
import Derived.Test.YtfllcbohggcmfaaGreatDoorKq
set_option linter.unusedSimpArgs false
set_option linter.unusedVariables false
set_option linter.unusedSectionVars false
set_option maxRecDepth 100000
namespace Go.Mx.Tryz
open Go.Lib

theorem bld_len {r : Nat} {qs : Option Nat} {s : List Nat} {H : Hp} (hB : Bldr r qs s H) : Gives G 31 [.pt r 1 0 0] H (.m (.i .i64 s.length)) H := by
 obtain ⟨⟨a, b, bb, h1, h2, h3, h4⟩, hne, hby⟩ := hB
 have r2 : ∀ x y : V, readR 2 [[x, y]] 0 1 1 = some [y] := fun _ _ => rfl
 refine .of_ret (ret_sh mono rfl rfl rfl rfl rfl ?_)
 cases h4 with
 | nil => simp (contextual := true) (maxSteps := 2000000) (disch := omega) [test_cx, rest_cx, gcall_cx, gcav_cx, -Int.not_lt, -Int.not_le, -Nat.not_lt, -Nat.not_le, -List.map_take, h1, r2, h2]
 | row hs hbb hq => simp (contextual := true) (maxSteps := 2000000) (disch := omega) [test_cx, rest_cx, gcall_cx, gcav_cx, -Int.not_lt, -Int.not_le, -Nat.not_lt, -Nat.not_le, -List.map_take, h1, r2, h2]
theorem textP_snoc (p : List Ce) (c : Ce) : textP (p ++ [c]) = textP p ++ (lineT c ++ [10]) := by
 induction p with
 | nil => simp [textP]
 | cons d r ih =>
  show (lineT d ++ [10]) ++ textP (r ++ [c]) = ((lineT d ++ [10]) ++ textP r) ++ _
  rw [ih]
  simp only [List.append_assoc]
theorem right_small {p : List Ce} (h : right p = true) : ∀ c, c ∈ p → small c := by
 unfold right at h
 rw [Bool.and_eq_true] at h
 exact chain_small p none h.2
theorem sepB (x y : Int) : ∀ c, c ∈ itoaN x ++ 32 :: itoaN y → c < 256 := by
 intro c hc
 rcases List.mem_append.1 hc with h | h
 ·exact itoaN_byte x c h
 ·rcases List.mem_cons.1 h with h | h
  ·omega
  ·exact itoaN_byte y c h
theorem sepS (y : Int) : ∀ c, c ∈ 32 :: itoaN y → c < 256 := by
 intro c h
 rcases List.mem_cons.1 h with h | h
 ·omega
 ·exact itoaN_byte y c h
theorem text_s {v : I} {p : List Ce} (hv : IsSl v (cells3 p)) (hl : p.length ≤ 1900) (H : Hp) : Gives G 14 [.m v] H (texV p) H := by
 refine gives_pur rfl rfl rfl rfl rfl ?_
 have hr := right_s hv (by omega)
 unfold texV
 cases hR : right p with
 | false =>
  rw [hR] at hr
  simp [cl (hr _)]
 | true =>
  rw [hR] at hr
  have hsm := right_small hR
  obtain ⟨H1, q1, g1, hB1, _⟩ := bld_str (bld_new [] []) headC (by decide) (by decide)
  have g1' : Gives G 28 [.pt 0 1 0 0, .m (.s [35, 99, 101, 108, 108, 115, 10])] [.cs 61 2 [[.m (.nl 0), .m (.nl 4)]] 0 false] (.tu [.m (.i .i64 ((headC.length : Nat) : Int)), .m (.nl 3)]) H1 := g1
  simp (contextual := true) (maxSteps := 2000000) (disch := omega) [test_cx, rest_cx, gcall_cx, gcav_cx, -Int.not_lt, -Int.not_le, -Nat.not_lt, -Nat.not_le, -List.map_take, hv.rules, cl (hr _), cl g1']
  refine (?key : ∀ (i : Nat) (B : List (Nat × List V)) (H : Hp) (qs : Option Nat), i ≤ p.length → Bldr 0 qs (headC ++ textP (p.take i)) H → Run G c14_B0 (S14_0 (.pt 0 1 0 0) (.m v) (.m (.i .i64 p.length)) (.m (.i .i64 i)) B H) _) 0 [] H1 q1 (Nat.zero_le _) hB1
  refine indM (fun i : Nat => p.length - i) fun i ih B H qs hi hB => ?_
  have tl := textP_len (p.take i) fun c hc => hsm c (List.mem_of_mem_take hc)
  have hti : (p.take i).length ≤ i := List.length_take_le i p
  unfold c14_B0
  cases hx : p[i]? with
  | none =>
   have : i = p.length := by have := List.getElem?_eq_none_iff.1 hx; omega
   subst this
   rw [List.take_length] at hB tl
   have h7 : (headC ++ textP p).length ≤ 65536 := by
    have : headC.length = 7 := rfl
    rw [List.length_append]
    omega
   have hgt : ¬ (65536 : Int) < ((headC ++ textP p).length : Nat) := by omega
   have gl := bld_len hB
   obtain ⟨H', g, _⟩ := bld_get hB (by omega)
   generalize headC ++ textP p = s at *
   simp (contextual := true) (maxSteps := 2000000) (disch := omega) [test_cx, rest_cx, gcall_cx, gcav_cx, -Int.not_lt, -Int.not_le, -Nat.not_lt, -Nat.not_le, -List.map_take, hv.rules, cl gl, cl g, hgt]
  | some c =>
   have hlt := (get_drop hx).1
   have hn := cells3_nth hx
   have hc := hsm c (List.mem_of_getElem? hx)
   have ih := ih (i + 1) (by omega)
   rw [take_succ_get hx, textP_snoc, ← List.append_assoc] at ih
   have h7 : (headC ++ textP (p.take i)).length ≤ 60000 := by
    have : headC.length = 7 := rfl
    rw [List.length_append]
    omega
   have lx := itoaN_small c.x hc.1
   have ly := itoaN_small c.y hc.2.1
   have ls := itoaN_small c.s (by have := hc.2.2; omega)
   have gx := itoa_s c.x (by have := hc.1; omega) (by have := hc.1; omega)
   have gy := itoa_s c.y (by have := hc.2.1; omega) (by have := hc.2.1; omega)
   have gs := itoa_s c.s (by have := hc.2.2; omega) (by have := hc.2.2; omega)
   generalize headC ++ textP (p.take i) = s at hB ih h7
   obtain ⟨H1, q1, g1, hB1, _⟩ := bld_str hB (itoaN c.x ++ 32 :: itoaN c.y) (sepB _ _) (by simp only [List.length_append, List.length_cons]; omega)
   have a1 : (itoaN c.x).length + 1 ≤ 9223372036854775807 := by omega
   have a2 : (itoaN c.x).length + ((itoaN c.y).length + 1) ≤ 9223372036854775807 := by omega
   have a3 : (itoaN c.x).length + 1 + (itoaN c.y).length ≤ 9223372036854775807 := by omega
   have a4 : 1 + (itoaN c.s).length ≤ 9223372036854775807 := by omega
   have hi' : (i : Int) < p.length := by omega
   have l1 : (s ++ (itoaN c.x ++ 32 :: itoaN c.y)).length ≤ 60050 := by simp only [List.length_append, List.length_cons]; omega
   by_cases h1 : c.s = 1
   ·obtain ⟨H2, q2, g2, hB2, _⟩ := bld_byte hB1 10 (by omega) (by omega)
    have g2' : Gives G 30 [.pt 0 1 0 0, .m (.i .u8 10)] H1 (.m (.nl 3)) H2 := g2
    have hB3 : Bldr 0 q2 (s ++ (lineT c ++ [10])) H2 := by
     have : s ++ (lineT c ++ [10]) = s ++ (itoaN c.x ++ 32 :: itoaN c.y) ++ [10] := by simp [lineT, h1]
     rw [this]; exact hB2
    have k := fun B => ih B H2 q2 (by omega) hB3
    rw [h1] at hn
    simp (contextual := true) (maxSteps := 2000000) (disch := omega) [test_cx, rest_cx, gcall_cx, gcav_cx, -Int.not_lt, -Int.not_le, -Nat.not_lt, -Nat.not_le, -List.map_take, hv.rules, hn, hi', cl (gx _), cl (gy _), a1, a2, a3, cl g1, cl g2', wr_i64]
    simpa using k _
   ·obtain ⟨H2, q2, g2, hB2, _⟩ := bld_str hB1 (32 :: itoaN c.s) (sepS _) (by simp only [List.length_cons]; omega)
    obtain ⟨H3, q3, g3, hB3, _⟩ := bld_byte hB2 10 (by omega) (by rw [List.length_append]; simp only [List.length_cons]; omega)
    have g3' : Gives G 30 [.pt 0 1 0 0, .m (.i .u8 10)] H2 (.m (.nl 3)) H3 := g3
    have hB4 : Bldr 0 q3 (s ++ (lineT c ++ [10])) H3 := by
     have : s ++ (lineT c ++ [10]) = s ++ (itoaN c.x ++ 32 :: itoaN c.y) ++ (32 :: itoaN c.s) ++ [10] := by simp [lineT, h1]
     rw [this]; exact hB3
    have k := fun B => ih B H3 q3 (by omega) hB4
    simp (contextual := true) (maxSteps := 2000000) (disch := omega) [test_cx, rest_cx, gcall_cx, gcav_cx, -Int.not_lt, -Int.not_le, -Nat.not_lt, -Nat.not_le, -List.map_take, hv.rules, hn, hi', cl (gx _), cl (gy _), cl (gs _), a1, a2, a3, a4, h1, cl g1, cl g2, cl g3', wr_i64]
    simpa using k _
end Go.Mx.Tryz

set_option maxRecDepth 100000
namespace Go.Mx.Tryz
open Go.Lib

theorem itoaN_32 (x : Int) : ∀ c, c ∈ itoaN x → c ≠ 32 := fun c hc => by have := itoaN_mem x c hc; omega
theorem itoaN_10 (x : Int) : ∀ c, c ∈ itoaN x → c ≠ 10 := fun c hc => by have := itoaN_mem x c hc; omega
theorem sep_hd (c : Nat) : ∀ (a r : List Nat), (∀ y, y ∈ a → y ≠ c) → hdB c (a ++ c :: r) = a ∧ tlB c (a ++ c :: r) = some r
 | [], r, _ => by
  have e1 : tlB c (c :: r) = if c = c then some r else tlB c r := rfl
  have e2 : hdB c (c :: r) = if c = c then [] else c :: hdB c r := rfl
  rw [if_pos rfl] at e1 e2
  exact ⟨e2, e1⟩
 | x :: t, r, h => by
  have hx := h x (by simp)
  obtain ⟨i1, i2⟩ := sep_hd c t r fun y hy => h y (by simp [hy])
  have e1 : tlB c (x :: (t ++ c :: r)) = if x = c then some (t ++ c :: r) else tlB c (t ++ c :: r) := rfl
  have e2 : hdB c (x :: (t ++ c :: r)) = if x = c then [] else x :: hdB c (t ++ c :: r) := rfl
  rw [if_neg hx] at e1 e2
  exact ⟨by rw [List.cons_append, e2, i1], by rw [List.cons_append, e1, i2]⟩
theorem no_tl (c : Nat) : ∀ (a : List Nat), (∀ y, y ∈ a → y ≠ c) → tlB c a = none
 | [], _ => rfl
 | x :: t, h => by
  have e1 : tlB c (x :: t) = if x = c then some t else tlB c t := rfl
  rw [e1, if_neg (h x (by simp)), no_tl c t fun y hy => h y (by simp [hy])]
theorem spl_sep (c : Nat) (a r : List Nat) (h : ∀ y, y ∈ a → y ≠ c) : spl c (a ++ c :: r) = a :: spl c r := by
 obtain ⟨h1, h2⟩ := sep_hd c a r h
 rw [spl_some c _ _ h2, h1]
theorem spl_lone (c : Nat) (a : List Nat) (h : ∀ y, y ∈ a → y ≠ c) : spl c a = [a] := spl_none c a (no_tl c a h)
theorem spl_line1 (c : Ce) (h : c.s = 1) : spl 32 (lineT c) = [itoaN c.x, itoaN c.y] := by
 unfold lineT
 rw [if_pos h, List.append_nil, spl_sep _ _ _ (itoaN_32 _), spl_lone _ _ (itoaN_32 _)]
theorem spl_line2 (c : Ce) (h : c.s ≠ 1) : spl 32 (lineT c) = [itoaN c.x, itoaN c.y, itoaN c.s] := by
 unfold lineT
 rw [if_neg h, spl_sep _ _ _ (itoaN_32 _), spl_sep _ _ _ (itoaN_32 _), spl_lone _ _ (itoaN_32 _)]
theorem lineT_10 (c : Ce) : ∀ y, y ∈ lineT c → y ≠ 10 := by
 intro y hy
 unfold lineT at hy
 rcases List.mem_append.1 hy with h | h
 ·exact itoaN_10 _ y h
 ·rcases List.mem_cons.1 h with h | h
  ·omega
  ·rcases List.mem_append.1 h with h | h
   ·exact itoaN_10 _ y h
   ·split at h
    ·cases h
    ·rcases List.mem_cons.1 h with h | h
     ·omega
     ·exact itoaN_10 _ y h
theorem lineT_256 (c : Ce) : ∀ y, y ∈ lineT c → y < 256 := by
 intro y hy
 unfold lineT at hy
 rcases List.mem_append.1 hy with h | h
 ·exact itoaN_byte _ y h
 ·rcases List.mem_cons.1 h with h | h
  ·omega
  ·rcases List.mem_append.1 h with h | h
   ·exact itoaN_byte _ y h
   ·split at h
    ·cases h
    ·rcases List.mem_cons.1 h with h | h
     ·omega
     ·exact itoaN_byte _ y h
theorem textP_256 : ∀ (p : List Ce), ∀ y, y ∈ textP p → y < 256
 | [], y, h => by cases h
 | c :: r, y, h => by
  have h' : y ∈ (lineT c ++ [10]) ++ textP r := h
  rcases List.mem_append.1 h' with h | h
  ·rcases List.mem_append.1 h with h | h
   ·exact lineT_256 c y h
   ·rcases List.mem_cons.1 h with h | h
    ·omega
    ·cases h
  ·exact textP_256 r y h
theorem lineT_st (c : Ce) : lineT c ≠ [] ∧ (lineT c).take 1 ≠ [35] := by
 unfold lineT
 have hm := itoaN_mem c.x
 cases hx : itoaN c.x with
 | nil => exact absurd hx (itoaN_ne _)
 | cons a t =>
  rw [hx] at hm
  have := hm a (by simp)
  refine ⟨by simp, ?_⟩
  simp
  omega
theorem lines_sep (a r : List Nat) (h : ∀ y, y ∈ a → y ≠ 10) : linesA [] (a ++ 10 :: r) = a :: linesA [] r := by
 obtain ⟨h1, h2⟩ := sep_hd 10 a r h
 rw [lines_hd (by simp), h1, h2]
 rfl
theorem lines_textP : ∀ p : List Ce, linesA [] (textP p) = p.map lineT
 | [] => rfl
 | c :: r => by
  have e : textP (c :: r) = (lineT c ++ [10]) ++ textP r := rfl
  rw [e, List.append_assoc, List.singleton_append, lines_sep _ _ (lineT_10 c), lines_textP r]
  rfl
theorem lines_text (p : List Ce) : linesA [] (headC ++ textP p) = [35, 99, 101, 108, 108, 115] :: p.map lineT := by
 have e : headC ++ textP p = [35, 99, 101, 108, 108, 115] ++ 10 :: textP p := rfl
 rw [e, lines_sep _ _ (by decide), lines_textP]
end Go.Mx.Tryz
