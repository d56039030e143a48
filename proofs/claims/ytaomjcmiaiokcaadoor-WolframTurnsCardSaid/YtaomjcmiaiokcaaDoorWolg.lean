/- WolframNumbers, WolframTurns. -/
import Derived.Test.YtaomjcmiaiokcaaDoorWolf
set_option maxRecDepth 100000
namespace Go.Mx.Tryd
open Go.Proofs

theorem good_of {l : List Int} (hb : l.any badB ≠ true) : ∀ x, x ∈ l → ∃ b : Nat, x = b ∧ b ≤ 1 := fun x hx => by
  have : badB x = false := by
    cases h : badB x with
    | false => rfl
    | true => exact absurd (List.any_eq_true.2 ⟨x, hx, h⟩) hb
  simp only [badB, Bool.and_eq_false_iff, decide_eq_false_iff_not, Classical.not_not] at this
  rcases this with rfl | rfl
  · exact ⟨0, rfl, by omega⟩
  · exact ⟨1, rfl, by omega⟩

theorem bits_val (b0 b1 b2 b3 b4 b5 b6 b7 : Nat) (q0 : b0 ≤ 1) (q1 : b1 ≤ 1) (q2 : b2 ≤ 1) (q3 : b3 ≤ 1) (q4 : b4 ≤ 1) (q5 : b5 ≤ 1) (q6 : b6 ≤ 1) (q7 : b7 ≤ 1) : bits (val b0 b1 b2 b3 b4 b5 b6 b7) = [(b0 : Int), b1, b2, b3, b4, b5, b6, b7] := by
  simp only [bits, val, List.cons.injEq, and_true]
  refine ⟨?_, ?_, ?_, ?_, ?_, ?_, ?_, ?_⟩ <;> omega

theorem law_nums (a0 a1 a2 a3 a4 a5 a6 a7 : Int) : Gives G 4 [.m (.ag (ints [a0, a1, a2, a3, a4, a5, a6, a7]))] [] (.m (.b true)) [] := by
  have g1 := num_any a0 a1 a2 a3 a4 a5 a6 a7 []
  have g2 := rnum_any a0 a1 a2 a3 a4 a5 a6 a7 []
  by_cases hb : [a0, a1, a2, a3, a4, a5, a6, a7].any badB = true
  · rw [if_pos hb] at g1 g2
    have g3 := elem_s 0 [] (by omega)
    refine gives_pur rfl rfl rfl rfl rfl ?_
    simp only [ints, bits, List.map_cons, List.map_nil] at g1 g2 g3 ⊢
    simp at g3
    simp [wc g1, wc g2, wc g3, wc awake_g]
  · rw [if_neg hb] at g1 g2
    have good := good_of hb
    obtain ⟨b0, rfl, q0⟩ := good a0 (by simp)
    obtain ⟨b1, rfl, q1⟩ := good a1 (by simp)
    obtain ⟨b2, rfl, q2⟩ := good a2 (by simp)
    obtain ⟨b3, rfl, q3⟩ := good a3 (by simp)
    obtain ⟨b4, rfl, q4⟩ := good a4 (by simp)
    obtain ⟨b5, rfl, q5⟩ := good a5 (by simp)
    obtain ⟨b6, rfl, q6⟩ := good a6 (by simp)
    obtain ⟨b7, rfl, q7⟩ := good a7 (by simp)
    rw [le8] at g1 g2
    have hv : val b0 b1 b2 b3 b4 b5 b6 b7 ≤ 255 := by unfold val; omega
    have g3 := elem_s (val b0 b1 b2 b3 b4 b5 b6 b7) [] hv
    rw [bits_val b0 b1 b2 b3 b4 b5 b6 b7 q0 q1 q2 q3 q4 q5 q6 q7] at g3
    refine gives_pur rfl rfl rfl rfl rfl ?_
    generalize val b0 b1 b2 b3 b4 b5 b6 b7 = n at g1 g2 g3
    simp only [ints, List.map_cons, List.map_nil] at g1 g2 g3 ⊢
    simp [wc g1, wc g2, wc g3, wc awake_g]

/-- The mirrored and the conjugate digits. -/
def mirL (l : List Int) : List Int := [l.getD 0 0, l.getD 4 0, l.getD 2 0, l.getD 6 0, l.getD 1 0, l.getD 5 0, l.getD 3 0, l.getD 7 0]
def conL (l : List Int) : List Int := [1 - l.getD 7 0, 1 - l.getD 6 0, 1 - l.getD 5 0, 1 - l.getD 4 0, 1 - l.getD 3 0, 1 - l.getD 2 0, 1 - l.getD 1 0, 1 - l.getD 0 0]

theorem and2 (j : Nat) (h : j < 8) : binX .and (.m (.i .i64 (j : Int))) (.m (.i .i64 2)) = some (.m (.i .i64 ((j / 2 % 2 * 2 : Nat) : Int))) := by
  have : ∀ j : Fin 8, binX .and (.m (.i .i64 ((j.val : Nat) : Int))) (.m (.i .i64 2)) = some (.m (.i .i64 ((j.val / 2 % 2 * 2 : Nat) : Int))) := by
    intro j
    match j with
    | 0 => rfl
    | 1 => rfl
    | 2 => rfl
    | 3 => rfl
    | 4 => rfl
    | 5 => rfl
    | 6 => rfl
    | 7 => rfl
  exact this ⟨j, h⟩

theorem mir_ok (b0 b1 b2 b3 b4 b5 b6 b7 : Nat) (n : Nat) (hn : n ≤ 255) (hb : bits n = [(b0 : Int), b1, b2, b3, b4, b5, b6, b7]) (H : Hp) :
    Gives G 14 [.m (.i .i64 n)] H (.tu [.m (.i .i64 (le (mirL (bits n)))), .m (.i .i64 0)]) H := by
  have g1 := elem_s n [] hn
  rw [hb] at g1 ⊢
  have g3 := num_any b0 b4 b2 b6 b1 b5 b3 b7 []
  have hg : [(b0 : Int), b4, b2, b6, b1, b5, b3, b7].any badB = false := by
    have := bits_any n
    rw [hb] at this
    simp only [List.any_cons, List.any_nil, Bool.or_eq_false_iff] at this ⊢
    simp only [this, and_self]
  rw [hg] at g3
  simp at g3
  simp only [mirL, List.getD_cons_zero, List.getD_cons_succ]
  generalize le [(b0 : Int), b4, b2, b6, b1, b5, b3, b7] = v at g3 ⊢
  have s0 : binX .and (.m (.i .i64 0)) (.m (.i .i64 2)) = some (.m (.i .i64 0)) := rfl
  have s1 : binX .and (.m (.i .i64 1)) (.m (.i .i64 2)) = some (.m (.i .i64 0)) := rfl
  have s2 : binX .and (.m (.i .i64 2)) (.m (.i .i64 2)) = some (.m (.i .i64 2)) := rfl
  have s3 : binX .and (.m (.i .i64 3)) (.m (.i .i64 2)) = some (.m (.i .i64 2)) := rfl
  have s4 : binX .and (.m (.i .i64 4)) (.m (.i .i64 2)) = some (.m (.i .i64 0)) := rfl
  have s5 : binX .and (.m (.i .i64 5)) (.m (.i .i64 2)) = some (.m (.i .i64 0)) := rfl
  have s6 : binX .and (.m (.i .i64 6)) (.m (.i .i64 2)) = some (.m (.i .i64 2)) := rfl
  have s7 : binX .and (.m (.i .i64 7)) (.m (.i .i64 2)) = some (.m (.i .i64 2)) := rfl
  have o00 : binX .or (.m (.i .i64 0)) (.m (.i .i64 0)) = some (.m (.i .i64 0)) := rfl
  have o02 : binX .or (.m (.i .i64 0)) (.m (.i .i64 2)) = some (.m (.i .i64 2)) := rfl
  have o40 : binX .or (.m (.i .i64 4)) (.m (.i .i64 0)) = some (.m (.i .i64 4)) := rfl
  have o42 : binX .or (.m (.i .i64 4)) (.m (.i .i64 2)) = some (.m (.i .i64 6)) := rfl
  have o20 : binX .or (.m (.i .i64 2)) (.m (.i .i64 0)) = some (.m (.i .i64 2)) := rfl
  have o60 : binX .or (.m (.i .i64 6)) (.m (.i .i64 0)) = some (.m (.i .i64 6)) := rfl
  have o01 : binX .or (.m (.i .i64 0)) (.m (.i .i64 1)) = some (.m (.i .i64 1)) := rfl
  have o41 : binX .or (.m (.i .i64 4)) (.m (.i .i64 1)) = some (.m (.i .i64 5)) := rfl
  have o21 : binX .or (.m (.i .i64 2)) (.m (.i .i64 1)) = some (.m (.i .i64 3)) := rfl
  have o61 : binX .or (.m (.i .i64 6)) (.m (.i .i64 1)) = some (.m (.i .i64 7)) := rfl
  refine gives_pur rfl rfl rfl rfl rfl ?_
  simp only [ints, List.map_cons, List.map_nil] at g1 g3 ⊢
  simp [wc g1, wc g3, s0, s1, s2, s3, s4, s5, s6, s7, o00, o02, o40, o42, o20, o60, o01, o41, o21, o61, wr_i64, c14_B0]

theorem con_ok (b0 b1 b2 b3 b4 b5 b6 b7 : Nat) (n : Nat) (hn : n ≤ 255) (hb : bits n = [(b0 : Int), b1, b2, b3, b4, b5, b6, b7]) (H : Hp) :
    Gives G 15 [.m (.i .i64 n)] H (.tu [.m (.i .i64 (le (conL (bits n)))), .m (.i .i64 0)]) H := by
  have g1 := elem_s n [] hn
  rw [hb] at g1 ⊢
  have q : ∀ x, x ∈ bits n → ∃ b : Nat, x = b ∧ b ≤ 1 := good_of (by rw [bits_any]; simp)
  rw [hb] at q
  have w : ∀ b : Nat, (b : Int) ∈ [(b0 : Int), b1, b2, b3, b4, b5, b6, b7] → wr .i64 (1 - (b : Int)) = 1 - (b : Int) := fun b h => by
    obtain ⟨c, h1, h2⟩ := q b h
    exact wr_i64 (by omega) (by omega)
  have bd : ∀ b : Nat, (b : Int) ∈ [(b0 : Int), b1, b2, b3, b4, b5, b6, b7] → badB (1 - (b : Int)) = false := fun b h => by
    obtain ⟨c, h1, h2⟩ := q b h
    rcases (by omega : b = 0 ∨ b = 1) with rfl | rfl <;> rfl
  have g3 := num_any (1 - b7) (1 - b6) (1 - b5) (1 - b4) (1 - b3) (1 - b2) (1 - b1) (1 - b0) []
  have hg : [1 - (b7 : Int), 1 - b6, 1 - b5, 1 - b4, 1 - b3, 1 - b2, 1 - b1, 1 - b0].any badB = false := by
    simp only [List.any_cons, List.any_nil, bd b0 (by simp), bd b1 (by simp), bd b2 (by simp), bd b3 (by simp), bd b4 (by simp), bd b5 (by simp), bd b6 (by simp), bd b7 (by simp), Bool.or_false]
  rw [hg] at g3
  simp at g3
  simp only [conL, List.getD_cons_zero, List.getD_cons_succ]
  generalize le [1 - (b7 : Int), 1 - b6, 1 - b5, 1 - b4, 1 - b3, 1 - b2, 1 - b1, 1 - b0] = v at g3 ⊢
  have w0 := w b0 (by simp)
  have w1 := w b1 (by simp)
  have w2 := w b2 (by simp)
  have w3 := w b3 (by simp)
  have w4 := w b4 (by simp)
  have w5 := w b5 (by simp)
  have w6 := w b6 (by simp)
  have w7 := w b7 (by simp)
  refine gives_pur rfl rfl rfl rfl rfl ?_
  simp only [ints, List.map_cons, List.map_nil] at g1 g3 ⊢
  simp [wc g1, wc g3, w0, w1, w2, w3, w4, w5, w6, w7, wr_i64, c15_B0]

theorem bits_form (n : Nat) : ∃ b0 b1 b2 b3 b4 b5 b6 b7 : Nat, bits n = [(b0 : Int), b1, b2, b3, b4, b5, b6, b7] := ⟨_, _, _, _, _, _, _, _, rfl⟩

theorem rmir_ok (b0 b1 b2 b3 b4 b5 b6 b7 : Nat) (n : Nat) (hn : n ≤ 255) (hb : bits n = [(b0 : Int), b1, b2, b3, b4, b5, b6, b7]) (H : Hp) :
    Gives G 27 [.m (.i .i64 n), .m (.b true)] H (.tu [.m (.i .i64 (le (mirL (bits n)))), .m (.i .i64 0)]) H := by
  have g1 := relem_s n [] hn
  rw [hb] at g1 ⊢
  have g3 := rnum_any b0 b4 b2 b6 b1 b5 b3 b7 []
  have hg : [(b0 : Int), b4, b2, b6, b1, b5, b3, b7].any badB = false := by
    have := bits_any n
    rw [hb] at this
    simp only [List.any_cons, List.any_nil, Bool.or_eq_false_iff] at this ⊢
    simp only [this, and_self]
  rw [hg] at g3
  simp at g3
  simp only [mirL, List.getD_cons_zero, List.getD_cons_succ]
  generalize le [(b0 : Int), b4, b2, b6, b1, b5, b3, b7] = v at g3 ⊢
  refine gives_pur rfl rfl rfl rfl rfl ?_
  simp only [ints, List.map_cons, List.map_nil] at g1 g3 ⊢
  simp [wc g1, wc g3, wr_i64, c27_B0, c27_B1, c27_B2]

theorem rcon_ok (b0 b1 b2 b3 b4 b5 b6 b7 : Nat) (n : Nat) (hn : n ≤ 255) (hb : bits n = [(b0 : Int), b1, b2, b3, b4, b5, b6, b7]) (H : Hp) :
    Gives G 27 [.m (.i .i64 n), .m (.b false)] H (.tu [.m (.i .i64 (le (conL (bits n)))), .m (.i .i64 0)]) H := by
  have g1 := relem_s n [] hn
  rw [hb] at g1 ⊢
  have q : ∀ x, x ∈ bits n → ∃ b : Nat, x = b ∧ b ≤ 1 := good_of (by rw [bits_any]; simp)
  rw [hb] at q
  have w : ∀ b : Nat, (b : Int) ∈ [(b0 : Int), b1, b2, b3, b4, b5, b6, b7] → wr .i64 (1 - (b : Int)) = 1 - (b : Int) := fun b h => by
    obtain ⟨c, h1, h2⟩ := q b h
    exact wr_i64 (by omega) (by omega)
  have bd : ∀ b : Nat, (b : Int) ∈ [(b0 : Int), b1, b2, b3, b4, b5, b6, b7] → badB (1 - (b : Int)) = false := fun b h => by
    obtain ⟨c, h1, h2⟩ := q b h
    rcases (by omega : b = 0 ∨ b = 1) with rfl | rfl <;> rfl
  have g3 := rnum_any (1 - b7) (1 - b6) (1 - b5) (1 - b4) (1 - b3) (1 - b2) (1 - b1) (1 - b0) []
  have hg : [1 - (b7 : Int), 1 - b6, 1 - b5, 1 - b4, 1 - b3, 1 - b2, 1 - b1, 1 - b0].any badB = false := by
    simp only [List.any_cons, List.any_nil, bd b0 (by simp), bd b1 (by simp), bd b2 (by simp), bd b3 (by simp), bd b4 (by simp), bd b5 (by simp), bd b6 (by simp), bd b7 (by simp), Bool.or_false]
  rw [hg] at g3
  simp at g3
  simp only [conL, List.getD_cons_zero, List.getD_cons_succ]
  generalize le [1 - (b7 : Int), 1 - b6, 1 - b5, 1 - b4, 1 - b3, 1 - b2, 1 - b1, 1 - b0] = v at g3 ⊢
  have w0 := w b0 (by simp)
  have w1 := w b1 (by simp)
  have w2 := w b2 (by simp)
  have w3 := w b3 (by simp)
  have w4 := w b4 (by simp)
  have w5 := w b5 (by simp)
  have w6 := w b6 (by simp)
  have w7 := w b7 (by simp)
  refine gives_pur rfl rfl rfl rfl rfl ?_
  simp only [ints, List.map_cons, List.map_nil] at g1 g3 ⊢
  simp [wc g1, wc g3, w0, w1, w2, w3, w4, w5, w6, w7, wr_i64, c27_B0, c27_B1, c27_B2]

theorem mir_bad (n : Int) (hn : n < 0 ∨ 255 < n) (H : Hp) : Gives G 14 [.m (.i .i64 n)] H (.tu [.m (.i .i64 0), .m (.i .i64 5)]) H := by
  have g1 := elem_bad n [] hn
  refine gives_pur rfl rfl rfl rfl rfl ?_
  simp only [ints, zero8, List.map_cons, List.map_nil] at g1
  simp [wc g1]
theorem con_bad (n : Int) (hn : n < 0 ∨ 255 < n) (H : Hp) : Gives G 15 [.m (.i .i64 n)] H (.tu [.m (.i .i64 0), .m (.i .i64 5)]) H := by
  have g1 := elem_bad n [] hn
  refine gives_pur rfl rfl rfl rfl rfl ?_
  simp only [ints, zero8, List.map_cons, List.map_nil] at g1
  simp [wc g1]
theorem turned_bad (n : Int) (t : Bool) (hn : n < 0 ∨ 255 < n) (H : Hp) : Gives G 27 [.m (.i .i64 n), .m (.b t)] H (.tu [.m (.i .i64 0), .m (.i .i64 5)]) H := by
  have g1 := relem_bad n [] hn
  refine gives_pur rfl rfl rfl rfl rfl ?_
  simp only [ints, zero8, List.map_cons, List.map_nil] at g1
  simp [wc g1]
theorem rmir_of {n a e : Int} (g : Gives G 27 [.m (.i .i64 n), .m (.b true)] [] (.tu [.m (.i .i64 a), .m (.i .i64 e)]) []) (H : Hp) : Gives G 16 [.m (.i .i64 n)] H (.tu [.m (.i .i64 a), .m (.i .i64 e)]) H := by
  refine gives_pur rfl rfl rfl rfl rfl ?_
  simp [wc g]
theorem rcon_of {n a e : Int} (g : Gives G 27 [.m (.i .i64 n), .m (.b false)] [] (.tu [.m (.i .i64 a), .m (.i .i64 e)]) []) (H : Hp) : Gives G 17 [.m (.i .i64 n)] H (.tu [.m (.i .i64 a), .m (.i .i64 e)]) H := by
  refine gives_pur rfl rfl rfl rfl rfl ?_
  simp [wc g]

def mirN (n : Nat) : Nat := (le (mirL (bits n))).toNat
def conN (n : Nat) : Nat := (le (conL (bits n))).toNat
def chkN (n : Nat) : Bool := decide (le (mirL (bits n)) = (mirN n : Nat)) && decide (le (conL (bits n)) = (conN n : Nat)) && Nat.ble (mirN n) 255 && Nat.ble (conN n) 255 && Nat.beq (mirN (mirN n)) n && Nat.beq (conN (conN n)) n && Nat.beq (conN (mirN n)) (mirN (conN n))
def uptoN (p : Nat → Bool) : Nat → Bool
  | 0 => true
  | n + 1 => p n && uptoN p n
theorem uptoN_at {p : Nat → Bool} : ∀ {n : Nat}, uptoN p n = true → ∀ x, x < n → p x = true
  | 0, _, x, h => by omega
  | n + 1, h, x, hx => by
    simp only [uptoN, Bool.and_eq_true] at h
    by_cases e : x = n
    · subst e; exact h.1
    · exact uptoN_at h.2 x (by omega)
theorem chkN_ok : uptoN chkN 256 = true := by kernel_rfl

theorem law_turns (n : Int) : Gives G 5 [.m (.i .i64 n)] [] (.m (.b true)) [] := by
  by_cases hn : n < 0 ∨ 255 < n
  · refine gives_pur rfl rfl rfl rfl rfl ?_
    simp [wc (mir_bad n hn []), wc (con_bad n hn []), wc (rmir_of (turned_bad n true hn []) []), wc (rcon_of (turned_bad n false hn []) []), wc awake_g]
  · obtain ⟨m, rfl⟩ : ∃ m : Nat, n = m := ⟨n.toNat, by omega⟩
    have key : ∀ m : Nat, m ≤ 255 → (∀ H, Gives G 14 [.m (.i .i64 m)] H (.tu [.m (.i .i64 (mirN m : Nat)), .m (.i .i64 0)]) H) ∧ (∀ H, Gives G 15 [.m (.i .i64 m)] H (.tu [.m (.i .i64 (conN m : Nat)), .m (.i .i64 0)]) H) ∧
        (∀ H, Gives G 16 [.m (.i .i64 m)] H (.tu [.m (.i .i64 (mirN m : Nat)), .m (.i .i64 0)]) H) ∧ (∀ H, Gives G 17 [.m (.i .i64 m)] H (.tu [.m (.i .i64 (conN m : Nat)), .m (.i .i64 0)]) H) ∧
        mirN m ≤ 255 ∧ conN m ≤ 255 ∧ mirN (mirN m) = m ∧ conN (conN m) = m ∧ conN (mirN m) = mirN (conN m) := fun m hm => by
      have hc := uptoN_at chkN_ok m (by omega)
      simp only [chkN, Bool.and_eq_true, decide_eq_true_eq, Nat.ble_eq, Nat.beq_eq] at hc
      obtain ⟨⟨⟨⟨⟨⟨k1, k2⟩, k3⟩, k4⟩, k5⟩, k6⟩, k7⟩ := hc
      obtain ⟨b0, b1, b2, b3, b4, b5, b6, b7, hb⟩ := bits_form m
      refine ⟨fun H => ?_, fun H => ?_, fun H => ?_, fun H => ?_, k3, k4, k5, k6, k7⟩
      · rw [← k1]; exact mir_ok b0 b1 b2 b3 b4 b5 b6 b7 m hm hb H
      · rw [← k2]; exact con_ok b0 b1 b2 b3 b4 b5 b6 b7 m hm hb H
      · rw [← k1]; exact rmir_of (rmir_ok b0 b1 b2 b3 b4 b5 b6 b7 m hm hb []) H
      · rw [← k2]; exact rcon_of (rcon_ok b0 b1 b2 b3 b4 b5 b6 b7 m hm hb []) H
    obtain ⟨g1, g2, g3, g4, l1, l2, e1, e2, e3⟩ := key m (by omega)
    obtain ⟨p1, p2, _, _, _, _, _, _, _⟩ := key (mirN m) l1
    obtain ⟨r1, r2, _, _, _, _, _, _, _⟩ := key (conN m) l2
    rw [e1] at p1
    rw [e2] at r2
    rw [e3] at p2
    refine gives_pur rfl rfl rfl rfl rfl ?_
    generalize mirN (conN m) = z at p2 r1
    generalize mirN m = x at g1 g3 p1 p2
    generalize conN m = y at g2 g4 r1 r2
    simp [wc (g1 []), wc (g2 []), wc (g3 []), wc (g4 []), wc (p1 []), wc (p2 []), wc (r1 []), wc (r2 []), wc awake_g]

/- The laws' arguments. -/
theorem wolfram_elementary {B : Nat} (us : List V) (h : ArgsOk Go.Proofs.Tryd.prog B 8 Go.Proofs.Tryd.f3.params.toList us) : Gives G 3 us [] (.m (.b true)) [] := by
  have e : Go.Proofs.Tryd.f3.params.toList = [3] := by rw [Go.Proofs.Tryd.params3]
  have h := e ▸ h
  obtain ⟨l1, r1, rfl, hl1, h⟩ := argsOk_cons h
  have := argsOk_nil h
  subst this
  have ha : aggT Go.Proofs.Tryd.prog 3 = some false := by unfold aggT; rw [Go.Proofs.Tryd.underlying3]; rfl
  simp only [Fits, Go.Proofs.Tryd.underlying3] at hl1
  obtain ⟨n, rfl, _, _⟩ := hl1
  rw [argV_one ha]
  exact law_elem n
theorem wolfram_turns {B : Nat} (us : List V) (h : ArgsOk Go.Proofs.Tryd.prog B 8 Go.Proofs.Tryd.f5.params.toList us) : Gives G 5 us [] (.m (.b true)) [] := by
  have e : Go.Proofs.Tryd.f5.params.toList = [3] := by rw [Go.Proofs.Tryd.params5]
  have h := e ▸ h
  obtain ⟨l1, r1, rfl, hl1, h⟩ := argsOk_cons h
  have := argsOk_nil h
  subst this
  have ha : aggT Go.Proofs.Tryd.prog 3 = some false := by unfold aggT; rw [Go.Proofs.Tryd.underlying3]; rfl
  simp only [Fits, Go.Proofs.Tryd.underlying3] at hl1
  obtain ⟨n, rfl, _, _⟩ := hl1
  rw [argV_one ha]
  exact law_turns n
theorem wolfram_numbers {B : Nat} (us : List V) (h : ArgsOk Go.Proofs.Tryd.prog B 8 Go.Proofs.Tryd.f4.params.toList us) : Gives G 4 us [] (.m (.b true)) [] := by
  have e : Go.Proofs.Tryd.f4.params.toList = [22] := by rw [Go.Proofs.Tryd.params4]
  have h := e ▸ h
  obtain ⟨l1, r1, rfl, hl1, h⟩ := argsOk_cons h
  have := argsOk_nil h
  subst this
  have ha : aggT Go.Proofs.Tryd.prog 22 = some true := by unfold aggT; rw [Go.Proofs.Tryd.underlying22]; rfl
  simp only [Fits, Go.Proofs.Tryd.underlying22, Go.Proofs.Tryd.underlying3] at hl1
  obtain ⟨es, rfl, hlen, hes⟩ := hl1
  rw [argV_ag ha]
  match es, hlen with
  | [x0, x1, x2, x3, x4, x5, x6, x7], _ =>
    obtain ⟨a0, rfl, _⟩ := hes x0 (by simp)
    obtain ⟨a1, rfl, _⟩ := hes x1 (by simp)
    obtain ⟨a2, rfl, _⟩ := hes x2 (by simp)
    obtain ⟨a3, rfl, _⟩ := hes x3 (by simp)
    obtain ⟨a4, rfl, _⟩ := hes x4 (by simp)
    obtain ⟨a5, rfl, _⟩ := hes x5 (by simp)
    obtain ⟨a6, rfl, _⟩ := hes x6 (by simp)
    obtain ⟨a7, rfl, _⟩ := hes x7 (by simp)
    exact law_nums a0 a1 a2 a3 a4 a5 a6 a7
end Go.Mx.Tryd
