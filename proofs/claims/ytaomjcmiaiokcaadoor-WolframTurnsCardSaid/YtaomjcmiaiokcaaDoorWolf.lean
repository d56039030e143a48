/- WolframElementary, WolframNumbers, WolframTurns: the 256 rules by evaluation, the rest by walks. -/
import Derived.Test.YtaomjcmiaiokcaaDoorLoops
import Derived.Test.YtaomjcmiaiokcaaDoorLaw
import Derived.Test.YtaomjcmiaiokcaaDoorIdxF
import Derived.Test.YtaomjcmiaiokcaaDoorAwake
set_option maxRecDepth 100000
namespace Go.Mx.Tryd
open Go.Proofs

/-- The binary digits of a number. -/
def bits (n : Nat) : List Int := [(n % 2 : Nat), (n / 2 % 2 : Nat), (n / 4 % 2 : Nat), (n / 8 % 2 : Nat), (n / 16 % 2 : Nat), (n / 32 % 2 : Nat), (n / 64 % 2 : Nat), (n / 128 % 2 : Nat)]
def ints (l : List Int) : List I := l.map (.i .i64)
def zero8 : List Int := [0, 0, 0, 0, 0, 0, 0, 0]

theorem elem_s (n : Nat) (H : Hp) (hn : n ≤ 255) : Gives G 9 [.m (.i .i64 n)] H (.tu [.m (.ag (ints (bits n))), .m (.i .i64 0)]) H := by
  refine gives_pur rfl rfl rfl rfl rfl ?_
  have h1 : ¬ ((n : Int) < 0) := by omega
  have h2 : ¬ ((255 : Int) < n) := by omega
  simp [h1, h2, wr_i64, ints, bits, c9_B0]

theorem elem_bad (n : Int) (H : Hp) (hn : n < 0 ∨ 255 < n) : Gives G 9 [.m (.i .i64 n)] H (.tu [.m (.ag (ints zero8)), .m (.i .i64 5)]) H := by
  refine gives_pur rfl rfl rfl rfl rfl ?_
  by_cases h : n < 0
  · simp [h, ints, zero8]
  · have h2 : 255 < n := by omega
    simp [h, h2, ints, zero8]

theorem relem_bad (n : Int) (H : Hp) (hn : n < 0 ∨ 255 < n) : Gives G 10 [.m (.i .i64 n)] H (.tu [.m (.ag (ints zero8)), .m (.i .i64 5)]) H := by
  refine gives_pur rfl rfl rfl rfl rfl ?_
  by_cases h : n < 0
  · simp [h, ints, zero8]
  · have h2 : 255 < n := by omega
    simp [h, h2, ints, zero8]

theorem tm2 (m : Nat) : ((m : Nat) : Int).tmod 2 = ((m % 2 : Nat) : Int) := (Int.ofNat_tmod m 2).symm
theorem div2w (m : Nat) (h : m ≤ 255) : wr .i64 ((m : Int) / 2) = ((m / 2 : Nat) : Int) := by
  rw [wr_i64 (by omega) (by omega)]
  rfl

theorem relem_s (n : Nat) (H : Hp) (hn : n ≤ 255) : Gives G 10 [.m (.i .i64 n)] H (.tu [.m (.ag (ints (bits n))), .m (.i .i64 0)]) H := by
  refine gives_pur rfl rfl rfl rfl rfl ?_
  have h1 : ¬ ((n : Int) < 0) := by omega
  have h2 : ¬ ((255 : Int) < n) := by omega
  obtain ⟨a1, e1⟩ : ∃ a, a = n / 2 := ⟨_, rfl⟩
  obtain ⟨a2, e2⟩ : ∃ a, a = a1 / 2 := ⟨_, rfl⟩
  obtain ⟨a3, e3⟩ : ∃ a, a = a2 / 2 := ⟨_, rfl⟩
  obtain ⟨a4, e4⟩ : ∃ a, a = a3 / 2 := ⟨_, rfl⟩
  obtain ⟨a5, e5⟩ : ∃ a, a = a4 / 2 := ⟨_, rfl⟩
  obtain ⟨a6, e6⟩ : ∃ a, a = a5 / 2 := ⟨_, rfl⟩
  obtain ⟨a7, e7⟩ : ∃ a, a = a6 / 2 := ⟨_, rfl⟩
  have w0 := div2w n hn
  have w1 := div2w a1 (by omega)
  have w2 := div2w a2 (by omega)
  have w3 := div2w a3 (by omega)
  have w4 := div2w a4 (by omega)
  have w5 := div2w a5 (by omega)
  have w6 := div2w a6 (by omega)
  have w7 := div2w a7 (by omega)
  rw [show a7 / 2 = 0 by omega] at w7
  rw [← e1] at w0
  rw [← e2] at w1
  rw [← e3] at w2
  rw [← e4] at w3
  rw [← e5] at w4
  rw [← e6] at w5
  rw [← e7] at w6
  have hb : bits n = [((n % 2 : Nat) : Int), ((a1 % 2 : Nat) : Int), ((a2 % 2 : Nat) : Int), ((a3 % 2 : Nat) : Int), ((a4 % 2 : Nat) : Int), ((a5 % 2 : Nat) : Int), ((a6 % 2 : Nat) : Int), ((a7 % 2 : Nat) : Int)] := by
    subst e1 e2 e3 e4 e5 e6 e7
    simp only [bits, Nat.div_div_eq_div_mul]
  rw [hb]
  clear hb e1 e2 e3 e4 e5 e6 e7
  simp [h1, h2, tm2, wr_i64, w0, w1, w2, w3, w4, w5, w6, w7, ints, c10_B0, -Int.natCast_emod]
def badB (x : Int) : Bool := decide (x ≠ 0) && decide (x ≠ 1)
theorem clo26 (x : Int) (H : Hp) : Gives G 26 [.m (.i .i64 x)] H (.m (.b (badB x))) H := by
  refine gives_pur rfl rfl rfl rfl rfl ?_
  unfold badB
  by_cases h : x = 0
  · simp [h]
  · simp [h]

theorem orI (p b c : Nat) (j : Nat) (hb : b ≤ 1) (hc : c = 2 ^ j) (hp : p < c) (hm : p + c < 9223372036854775808) : binX .or (.m (.i .i64 p)) (.m (.i .i64 ((b * c : Nat) : Int))) = some (.m (.i .i64 ((p + b * c : Nat) : Int))) := by
  have e1 : patK .i64 (p : Int) = p := by show p % 18446744073709551616 = p; omega
  rcases (by omega : b = 0 ∨ b = 1) with rfl | rfl
  · have e2 : patK .i64 (((0 * c : Nat)) : Int) = 0 := by rw [Nat.zero_mul]; rfl
    rw [bx_or, e1, e2]
    have : Nat.lor p 0 = p := Nat.or_zero p
    rw [this]
    have hw : wr .i64 (Int.ofNat p) = ((p + 0 * c : Nat) : Int) := by
      rw [Nat.zero_mul, Nat.add_zero]
      exact wr_i64 (by simp <;> omega) (by simp <;> omega)
    rw [hw]
  · have e2 : patK .i64 (((1 * c : Nat)) : Int) = c := by rw [Nat.one_mul]; show c % 18446744073709551616 = c; omega
    rw [bx_or, e1, e2]
    have : Nat.lor p c = p + c := by
      have h1 : 2 ^ j * 1 + p = 2 ^ j * 1 ||| p := Nat.two_pow_add_eq_or_of_lt (by omega) 1
      rw [Nat.mul_one, ← hc] at h1
      show p ||| c = p + c
      rw [Nat.or_comm, ← h1, Nat.add_comm]
    rw [this]
    have hw : wr .i64 (Int.ofNat (p + c)) = ((p + 1 * c : Nat) : Int) := by
      rw [Nat.one_mul]
      exact wr_i64 (by simp <;> omega) (by simp <;> omega)
    rw [hw]

def val (b0 b1 b2 b3 b4 b5 b6 b7 : Nat) : Nat := b0 + b1 * 2 + b2 * 4 + b3 * 8 + b4 * 16 + b5 * 32 + b6 * 64 + b7 * 128

theorem badB_bit (b : Nat) (h : b ≤ 1) : badB (b : Int) = false := by
  rcases (by omega : b = 0 ∨ b = 1) with rfl | rfl <;> rfl

theorem view_row (a0 a1 a2 a3 a4 a5 a6 a7 : Int) : optMap (view 20 [.cs 22 1 [[.m (.i .i64 a0)], [.m (.i .i64 a1)], [.m (.i .i64 a2)], [.m (.i .i64 a3)], [.m (.i .i64 a4)], [.m (.i .i64 a5)], [.m (.i .i64 a6)], [.m (.i .i64 a7)]] 0 false]) [.sl 0 8 1 0 8 true, .m (.fn 26 [])] = some [.sl (cells1 [a0, a1, a2, a3, a4, a5, a6, a7]), .fn 26 []] := rfl

theorem num_s (b0 b1 b2 b3 b4 b5 b6 b7 : Nat) (q0 : b0 ≤ 1) (q1 : b1 ≤ 1) (q2 : b2 ≤ 1) (q3 : b3 ≤ 1) (q4 : b4 ≤ 1) (q5 : b5 ≤ 1) (q6 : b6 ≤ 1) (q7 : b7 ≤ 1) (H : Hp) :
    Gives G 11 [.m (.ag (ints [(b0 : Int), b1, b2, b3, b4, b5, b6, b7]))] H (.tu [.m (.i .i64 (val b0 b1 b2 b3 b4 b5 b6 b7 : Nat)), .m (.i .i64 0)]) H := by
  refine gives_pur rfl rfl rfl rfl rfl ?_
  have hc := contf 26 [] badB [(b0 : Int), b1, b2, b3, b4, b5, b6, b7] (by simp) (fun x _ => clo26 x []) []
  have hv := gives_view rfl rfl hc (view_row b0 b1 b2 b3 b4 b5 b6 b7) (.inr ⟨by simp [refs, ref1], rfl⟩)
  have hb : ([(b0 : Int), b1, b2, b3, b4, b5, b6, b7]).any badB = false := by simp [badB_bit, *]
  rw [hb] at hv
  have orS : ∀ (p b c j : Nat), b ≤ 1 → c = 2 ^ j → p < c → c ≤ 128 → ∃ p', binX .or (.m (.i .i64 p)) (.m (.i .i64 ((b : Int) * c))) = some (.m (.i .i64 (p' : Nat))) ∧ p' = p + b * c := fun p b c j h1 h2 h3 h4 => by
    have := orI p b c j h1 h2 h3 (by omega)
    rw [Int.natCast_mul] at this
    exact ⟨_, this, rfl⟩
  have shS : ∀ (b c : Nat), b ≤ 1 → c ≤ 128 → wr .i64 ((b : Int) * c) = (b : Int) * c := fun b c h1 h2 => by
    have h3 : b * c ≤ 1 * 128 := Nat.mul_le_mul h1 h2
    have h4 : ((b * c : Nat) : Int) = (b : Int) * c := Int.natCast_mul b c
    rw [← h4]
    exact wr_i64 (by omega) (by omega)
  obtain ⟨p1, o0, e0⟩ := orS 0 b0 1 0 q0 rfl (by omega) (by omega)
  obtain ⟨p2, o1, e1⟩ := orS p1 b1 2 1 q1 rfl (by omega) (by omega)
  obtain ⟨p3, o2, e2⟩ := orS p2 b2 4 2 q2 rfl (by omega) (by omega)
  obtain ⟨p4, o3, e3⟩ := orS p3 b3 8 3 q3 rfl (by omega) (by omega)
  obtain ⟨p5, o4, e4⟩ := orS p4 b4 16 4 q4 rfl (by omega) (by omega)
  obtain ⟨p6, o5, e5⟩ := orS p5 b5 32 5 q5 rfl (by omega) (by omega)
  obtain ⟨p7, o6, e6⟩ := orS p6 b6 64 6 q6 rfl (by omega) (by omega)
  obtain ⟨p8, o7, e7⟩ := orS p7 b7 128 7 q7 rfl (by omega) (by omega)
  have hp : val b0 b1 b2 b3 b4 b5 b6 b7 = p8 := by unfold val; omega
  rw [hp]
  have s0 := shS b0 1 q0 (by omega)
  have s1 := shS b1 2 q1 (by omega)
  have s2 := shS b2 4 q2 (by omega)
  have s3 := shS b3 8 q3 (by omega)
  have s4 := shS b4 16 q4 (by omega)
  have s5 := shS b5 32 q5 (by omega)
  have s6 := shS b6 64 q6 (by omega)
  have s7 := shS b7 128 q7 (by omega)
  clear hp e0 e1 e2 e3 e4 e5 e6 e7 orS shS
  simp only [Int.natCast_one, Int.mul_one, Int.natCast_zero, show ((2 : Nat) : Int) = 2 from rfl, show ((4 : Nat) : Int) = 4 from rfl, show ((8 : Nat) : Int) = 8 from rfl, show ((16 : Nat) : Int) = 16 from rfl, show ((32 : Nat) : Int) = 32 from rfl, show ((64 : Nat) : Int) = 64 from rfl, show ((128 : Nat) : Int) = 128 from rfl] at o0 o1 o2 o3 o4 o5 o6 o7 s0 s1 s2 s3 s4 s5 s6 s7
  simp only [ints, List.map_cons, List.map_nil] at hv ⊢
  simp [wc hv, o0, o1, o2, o3, o4, o5, o6, o7, s0, s1, s2, s3, s4, s5, s6, s7, readR_1, wr_i64, c11_B0]

theorem num_bad (a0 a1 a2 a3 a4 a5 a6 a7 : Int) (hb : [a0, a1, a2, a3, a4, a5, a6, a7].any badB = true) (H : Hp) :
    Gives G 11 [.m (.ag (ints [a0, a1, a2, a3, a4, a5, a6, a7]))] H (.tu [.m (.i .i64 0), .m (.i .i64 10)]) H := by
  refine gives_pur rfl rfl rfl rfl rfl ?_
  have hc := contf 26 [] badB [a0, a1, a2, a3, a4, a5, a6, a7] (by simp) (fun x _ => clo26 x []) []
  have hv := gives_view rfl rfl hc (view_row a0 a1 a2 a3 a4 a5 a6 a7) (.inr ⟨by simp [refs, ref1], rfl⟩)
  rw [hb] at hv
  simp only [ints, List.map_cons, List.map_nil] at hv ⊢
  simp [wc hv]

def le : List Int → Int
  | [] => 0
  | a :: r => a + 2 * le r
theorem le_append : ∀ (l : List Int) (x : Int), le (l ++ [x]) = le l + 2 ^ l.length * x
  | [], x => by simp [le]
  | a :: r, x => by
    simp only [List.cons_append, le, le_append r x, List.length_cons, Int.pow_succ]
    rw [Int.mul_add, Int.add_assoc, ← Int.mul_assoc, Int.mul_comm 2 (2 ^ r.length)]

theorem rnum_loop (l : List Int) (hl : l.length = 8) (x0 : V) (k : K) (Pb : Prop) (Pg : Int → Prop)
    (hr : ∀ E, getE E 2 = some (.m (.i .i64 0)) → getE E 3 = some (.m (.i .i64 10)) → At' G .ret ⟨E, [], ⟨[(1, (ints l).map .m)], []⟩⟩ k = Pb)
    (he : ∀ n E, getE E 4 = some (.m (.i .i64 n)) → At' G (.ex 0) ⟨E, [], ⟨[(1, (ints l).map .m)], []⟩⟩ k = Pg n) :
    ∀ (m : Nat), m ≤ 8 → ∀ n : Int, 0 ≤ n → n < 2 ^ (8 - m) → Run G c13_B0 ⟨[(0, x0), (1, .fa 1 0), (4, .m (.i .i64 n)), (5, .m (.i .i64 ((m : Int) - 1)))], [], ⟨[(1, (ints l).map .m)], []⟩⟩ (.seq c13_L0 k) =
      if (l.take m).any badB then Pb else Pg (n * 2 ^ m + le (l.take m))
  | 0, _, n, h0, h1 => by
    unfold c13_B0
    simp [he n, le]
  | m + 1, hm, n, h0, h1 => by
    have hlt : m < l.length := by omega
    obtain ⟨x, hx⟩ : ∃ x, l[m]? = some x := ⟨l[m], List.getElem?_eq_getElem hlt⟩
    have ht : l.take (m + 1) = l.take m ++ [x] := by rw [List.take_add_one, hx]; rfl
    have hlen : (l.take m).length = m := by simp; omega
    have hix : ((m + 1 : Nat) : Int) - 1 = (m : Int) := by omega
    have hd : ((ints l).map V.m).drop m = .m (.i .i64 x) :: ((ints l).map V.m).drop (m + 1) := by
      have h2 : m < ((ints l).map V.m).length := by simp [ints]; omega
      rw [List.drop_eq_getElem_cons h2]
      congr 1
      have : l[m] = x := by rw [List.getElem?_eq_getElem hlt] at hx; exact Option.some.inj hx
      simp [ints, this]
    have hlt8 : (m : Int) < 8 := by omega
    have hm0 : (0 : Int) ≤ m := by omega
    have h64 : (2 : Int) ^ (8 - (m + 1)) ≤ 128 := by
      have : 8 - (m + 1) ≤ 7 := by omega
      have key : ∀ j : Nat, j < 8 → (2 : Int) ^ j ≤ 128 := by decide
      exact key _ (by omega)
    have h2p : (2 : Int) ^ (8 - m) = 2 * 2 ^ (8 - (m + 1)) := by
      have : 8 - m = (8 - (m + 1)) + 1 := by omega
      rw [this, Int.pow_succ, Int.mul_comm]
    by_cases hb : badB x = true
    · have hb' := hb
      simp only [badB, Bool.and_eq_true, decide_eq_true_eq] at hb'
      unfold c13_B0
      rw [hix, ht]
      simp only [List.any_append, List.any_cons, hb, Bool.true_or, Bool.or_true, if_true]
      simp [hd, hlt8, hb'.1, hb'.2, hr]
    · have hx01 : x = 0 ∨ x = 1 := by
        simp only [badB, Bool.and_eq_true, decide_eq_true_eq] at hb
        omega
      have hw : wr .i64 (wr .i64 (2 * n) + x) = 2 * n + x := by
        rw [wr_i64 (x := 2 * n) (by omega) (by omega), wr_i64 (by omega) (by omega)]
      have ih := rnum_loop l hl x0 k Pb Pg hr he m (by omega) (2 * n + x) (by omega) (by omega)
      have hv : (2 * n + x) * 2 ^ m + le (l.take m) = n * 2 ^ (m + 1) + le (l.take (m + 1)) := by
        rw [ht, le_append, hlen, Int.pow_succ, Int.add_mul, Int.mul_comm 2 n, Int.mul_assoc n 2, Int.mul_comm 2 (2 ^ m), Int.mul_comm x]
        omega
      have hbf : badB x = false := by simpa using hb
      have hwm : wr .i64 ((m : Int) - 1) = (m : Int) - 1 := wr_i64 (by omega) (by omega)
      rw [hv] at ih
      rw [hix, ht]
      simp only [List.any_append, List.any_cons, hbf, List.any_nil, Bool.or_false]
      rw [← ht]
      generalize (if (List.take m l).any badB = true then Pb else Pg (n * 2 ^ (m + 1) + le (List.take (m + 1) l))) = R at ih ⊢
      rcases hx01 with rfl | rfl
      · simp only [Int.add_zero] at hw ih
        unfold c13_B0
        simp [hd, hlt8, hwm, hw, ih]
      · unfold c13_B0
        simp [hd, hlt8, hwm, hw, ih]

theorem rnum_any (a0 a1 a2 a3 a4 a5 a6 a7 : Int) (H : Hp) :
    Gives G 13 [.m (.ag (ints [a0, a1, a2, a3, a4, a5, a6, a7]))] H (if [a0, a1, a2, a3, a4, a5, a6, a7].any badB then .tu [.m (.i .i64 0), .m (.i .i64 10)] else .tu [.m (.i .i64 (le [a0, a1, a2, a3, a4, a5, a6, a7])), .m (.i .i64 0)]) H := by
  refine gives_pur rfl rfl rfl rfl rfl ?_
  generalize hv : (if [a0, a1, a2, a3, a4, a5, a6, a7].any badB then V.tu [.m (.i .i64 0), .m (.i .i64 10)] else .tu [.m (.i .i64 (le [a0, a1, a2, a3, a4, a5, a6, a7])), .m (.i .i64 0)]) = v
  have key := fun k Pb Pg hr he => rnum_loop [a0, a1, a2, a3, a4, a5, a6, a7] rfl (.m (.ag (ints [a0, a1, a2, a3, a4, a5, a6, a7]))) k Pb Pg hr he 8 (by omega) 0 (by omega) (by omega)
  have z : (((8 : Nat) : Int) - 1) = 7 := rfl
  simp only [z] at key
  simp only [ints, List.map_cons, List.map_nil] at key ⊢
  simp
  rw [key _ (.tu [.m (.i .i64 0), .m (.i .i64 10)] = v) (fun n => .tu [.m (.i .i64 n), .m (.i .i64 0)] = v)]
  · rw [← hv]
    have e1 : List.take 8 [a0, a1, a2, a3, a4, a5, a6, a7] = [a0, a1, a2, a3, a4, a5, a6, a7] := rfl
    have e2 : (0 : Int) * 2 ^ 8 + le [a0, a1, a2, a3, a4, a5, a6, a7] = le [a0, a1, a2, a3, a4, a5, a6, a7] := by omega
    rw [e1, e2]
    split <;> rfl
  · intro E h2 h3
    simp [h2, h3]
  · intro n E h4
    simp [h4]

theorem awake_g : Gives G 12 [] [] (.m (.b true)) [] := ⟨_, awake_ok⟩

theorem le8 (b0 b1 b2 b3 b4 b5 b6 b7 : Nat) : le [(b0 : Int), b1, b2, b3, b4, b5, b6, b7] = (val b0 b1 b2 b3 b4 b5 b6 b7 : Nat) := by
  simp only [le, val]
  omega

/-- Both texts of Number agree, at any list. -/
theorem num_any (a0 a1 a2 a3 a4 a5 a6 a7 : Int) (H : Hp) :
    Gives G 11 [.m (.ag (ints [a0, a1, a2, a3, a4, a5, a6, a7]))] H (if [a0, a1, a2, a3, a4, a5, a6, a7].any badB then .tu [.m (.i .i64 0), .m (.i .i64 10)] else .tu [.m (.i .i64 (le [a0, a1, a2, a3, a4, a5, a6, a7])), .m (.i .i64 0)]) H := by
  by_cases hb : [a0, a1, a2, a3, a4, a5, a6, a7].any badB = true
  · rw [if_pos hb]; exact num_bad a0 a1 a2 a3 a4 a5 a6 a7 hb H
  · rw [if_neg hb]
    have good : ∀ x, x ∈ [a0, a1, a2, a3, a4, a5, a6, a7] → ∃ b : Nat, x = b ∧ b ≤ 1 := fun x hx => by
      have : badB x = false := by
        cases h : badB x with
        | false => rfl
        | true => exact absurd (List.any_eq_true.2 ⟨x, hx, h⟩) hb
      simp only [badB, Bool.and_eq_false_iff, decide_eq_false_iff_not, Classical.not_not] at this
      rcases this with rfl | rfl
      · exact ⟨0, rfl, by omega⟩
      · exact ⟨1, rfl, by omega⟩
    obtain ⟨b0, rfl, q0⟩ := good a0 (by simp)
    obtain ⟨b1, rfl, q1⟩ := good a1 (by simp)
    obtain ⟨b2, rfl, q2⟩ := good a2 (by simp)
    obtain ⟨b3, rfl, q3⟩ := good a3 (by simp)
    obtain ⟨b4, rfl, q4⟩ := good a4 (by simp)
    obtain ⟨b5, rfl, q5⟩ := good a5 (by simp)
    obtain ⟨b6, rfl, q6⟩ := good a6 (by simp)
    obtain ⟨b7, rfl, q7⟩ := good a7 (by simp)
    rw [le8]
    exact num_s b0 b1 b2 b3 b4 b5 b6 b7 q0 q1 q2 q3 q4 q5 q6 q7 H

theorem bits_any (n : Nat) : (bits n).any badB = false := by
  have h : ∀ m : Nat, badB ((m % 2 : Nat) : Int) = false := fun m => badB_bit _ (by omega)
  simp only [bits, List.any_cons, List.any_nil, h, Bool.or_false]
theorem bits_le (n : Nat) (h : n ≤ 255) : le (bits n) = n := by
  simp only [bits, le]
  omega

theorem law_elem (n : Int) : Gives G 3 [.m (.i .i64 n)] [] (.m (.b true)) [] := by
  by_cases hn : n < 0 ∨ 255 < n
  · refine gives_pur rfl rfl rfl rfl rfl ?_
    have g1 := elem_bad n [] hn
    have g2 := relem_bad n [] hn
    have g3 := num_any 0 0 0 0 0 0 0 0 []
    simp only [ints, zero8, List.map_cons, List.map_nil] at g1 g2 g3
    have hb : ([0, 0, 0, 0, 0, 0, 0, 0] : List Int).any badB = false := by decide
    rw [hb] at g3
    simp [wc g1, wc g2, wc g3, wc awake_g]
  · obtain ⟨m, rfl⟩ : ∃ m : Nat, n = m := ⟨n.toNat, by omega⟩
    have hm : m ≤ 255 := by omega
    refine gives_pur rfl rfl rfl rfl rfl ?_
    have g1 := elem_s m [] hm
    have g2 := relem_s m [] hm
    have g3 := num_any (m % 2 : Nat) (m / 2 % 2 : Nat) (m / 4 % 2 : Nat) (m / 8 % 2 : Nat) (m / 16 % 2 : Nat) (m / 32 % 2 : Nat) (m / 64 % 2 : Nat) (m / 128 % 2 : Nat) []
    have hb := bits_any m
    have hl := bits_le m hm
    simp only [bits] at hb hl
    rw [hb, hl] at g3
    simp only [ints, bits, List.map_cons, List.map_nil] at g1 g2 g3
    generalize ((m % 2 : Nat) : Int) = a0 at g1 g2 g3
    generalize ((m / 2 % 2 : Nat) : Int) = a1 at g1 g2 g3
    generalize ((m / 4 % 2 : Nat) : Int) = a2 at g1 g2 g3
    generalize ((m / 8 % 2 : Nat) : Int) = a3 at g1 g2 g3
    generalize ((m / 16 % 2 : Nat) : Int) = a4 at g1 g2 g3
    generalize ((m / 32 % 2 : Nat) : Int) = a5 at g1 g2 g3
    generalize ((m / 64 % 2 : Nat) : Int) = a6 at g1 g2 g3
    generalize ((m / 128 % 2 : Nat) : Int) = a7 at g1 g2 g3
    simp at g3
    simp [wc g1, wc g2, wc g3, wc awake_g]
end Go.Mx.Tryd
