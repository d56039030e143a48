/- The loops of this seat, one round at a time. -/
import Derived.Test.YtchacpbmpgfblaaDoorSeat
namespace Go.Mx.Tryd
abbrev S12_0 (x0 x4 x5 x6 x7 x8 x9 x10 : V) (B : List (Nat × List V)) (H : Hp) : St := ⟨[(0, x0), (4, x4), (5, x5), (6, x6), (7, x7), (8, x8), (9, x9), (10, x10)], [], ⟨B, H⟩⟩
@[simp] theorem u12_0 (s : St) (k : K) : Run G c12_L0 s k = Run G c12_B0 { s with E := dropE [21, 32, 44, 49, 65, 68] s.E } (.seq c12_L0 k) := w_loop _ _ s k
abbrev S12_1 (x0 x4 x5 x6 x7 x8 : V) (B : List (Nat × List V)) (H : Hp) : St := ⟨[(0, x0), (4, x4), (5, x5), (6, x6), (7, x7), (8, x8)], [], ⟨B, H⟩⟩
@[simp] theorem u12_1 (s : St) (k : K) : Run G c12_L1 s k = Run G c12_B1 { s with E := dropE [2, 3, 9, 10, 15, 17, 21, 32, 40, 44, 49, 68, 91] s.E } (.seq c12_L1 k) := w_loop _ _ s k
abbrev S15_0 (x0 x3 x4 : V) (B : List (Nat × List V)) (H : Hp) : St := ⟨[(0, x0), (3, x3), (4, x4)], [], ⟨B, H⟩⟩
@[simp] theorem u15_0 (s : St) (k : K) : Run G c15_L0 s k = Run G c15_B0 { s with E := dropE [2, 15, 25] s.E } (.seq c15_L0 k) := w_loop _ _ s k
abbrev S15_1 (x3 x5 x6 x7 : V) (B : List (Nat × List V)) (H : Hp) : St := ⟨[(3, x3), (5, x5), (6, x6), (7, x7)], [], ⟨B, H⟩⟩
@[simp] theorem u15_1 (s : St) (k : K) : Run G c15_L1 s k = Run G c15_B1 { s with E := dropE [8, 42, 52, 67] s.E } (.seq c15_L1 k) := w_loop _ _ s k
abbrev S15_2 (x3 x5 x6 : V) (B : List (Nat × List V)) (H : Hp) : St := ⟨[(3, x3), (5, x5), (6, x6)], [], ⟨B, H⟩⟩
@[simp] theorem u15_2 (s : St) (k : K) : Run G c15_L2 s k = Run G c15_B2 { s with E := dropE [7, 34, 52] s.E } (.seq c15_L2 k) := w_loop _ _ s k
abbrev S15_3 (x3 x5 : V) (B : List (Nat × List V)) (H : Hp) : St := ⟨[(3, x3), (5, x5)], [], ⟨B, H⟩⟩
@[simp] theorem u15_3 (s : St) (k : K) : Run G c15_L3 s k = Run G c15_B3 { s with E := dropE [0, 4, 6, 15, 42] s.E } (.seq c15_L3 k) := w_loop _ _ s k
abbrev S15_4 (x3 x9 x10 : V) (B : List (Nat × List V)) (H : Hp) : St := ⟨[(3, x3), (9, x9), (10, x10)], [], ⟨B, H⟩⟩
@[simp] theorem u15_4 (s : St) (k : K) : Run G c15_L4 s k = Run G c15_B4 { s with E := dropE [5, 34, 73, 78] s.E } (.seq c15_L4 k) := w_loop _ _ s k
abbrev S16_0 (x0 x1 x2 x8 x9 : V) (B : List (Nat × List V)) (H : Hp) : St := ⟨[(0, x0), (1, x1), (2, x2), (8, x8), (9, x9)], [], ⟨B, H⟩⟩
@[simp] theorem u16_0 (s : St) (k : K) : Run G c16_L0 s k = Run G c16_B0 { s with E := dropE [6, 7, 12, 26, 30, 48] s.E } (.seq c16_L0 k) := w_loop _ _ s k
abbrev S17_0 (x0 x1 x5 x6 x7 x8 : V) (B : List (Nat × List V)) (H : Hp) : St := ⟨[(0, x0), (1, x1), (5, x5), (6, x6), (7, x7), (8, x8)], [], ⟨B, H⟩⟩
@[simp] theorem u17_0 (s : St) (k : K) : Run G c17_L0 s k = Run G c17_B0 { s with E := dropE [4, 9, 16, 39, 49] s.E } (.seq c17_L0 k) := w_loop _ _ s k
abbrev S17_1 (x5 x6 x7 x10 : V) (B : List (Nat × List V)) (H : Hp) : St := ⟨[(5, x5), (6, x6), (7, x7), (10, x10)], [], ⟨B, H⟩⟩
@[simp] theorem u17_1 (s : St) (k : K) : Run G c17_L1 s k = Run G c17_B1 { s with E := dropE [0, 1, 8, 16, 68] s.E } (.seq c17_L1 k) := w_loop _ _ s k
abbrev S18_0 (x0 x3 : V) (B : List (Nat × List V)) (H : Hp) : St := ⟨[(0, x0), (3, x3)], [], ⟨B, H⟩⟩
@[simp] theorem u18_0 (s : St) (k : K) : Run G c18_L0 s k = Run G c18_B0 { s with E := dropE [2, 7, 54] s.E } (.seq c18_L0 k) := w_loop _ _ s k
abbrev S21_0 (x0 x1 x12 x13 : V) (B : List (Nat × List V)) (H : Hp) : St := ⟨[(0, x0), (1, x1), (12, x12), (13, x13)], [], ⟨B, H⟩⟩
@[simp] theorem u21_0 (s : St) (k : K) : Run G c21_L0 s k = Run G c21_B0 { s with E := dropE [4, 5, 10, 14, 24] s.E } (.seq c21_L0 k) := w_loop _ _ s k
abbrev S24_0 (x0 x8 x9 x10 : V) (B : List (Nat × List V)) (H : Hp) : St := ⟨[(0, x0), (8, x8), (9, x9), (10, x10)], [], ⟨B, H⟩⟩
@[simp] theorem u24_0 (s : St) (k : K) : Run G c24_L0 s k = Run G c24_B0 { s with E := dropE [2, 3, 4, 7, 11, 42] s.E } (.seq c24_L0 k) := w_loop _ _ s k
abbrev S26_0 (x3 x6 x7 x8 x12 x13 x14 : V) (B : List (Nat × List V)) (H : Hp) : St := ⟨[(3, x3), (6, x6), (7, x7), (8, x8), (12, x12), (13, x13), (14, x14)], [], ⟨B, H⟩⟩
@[simp] theorem u26_0 (s : St) (k : K) : Run G c26_L0 s k = Run G c26_B0 { s with E := dropE [0, 2, 4, 5, 10, 15, 21, 33] s.E } (.seq c26_L0 k) := w_loop _ _ s k
abbrev S27_0 (x3 x5 x24 x25 x26 : V) (B : List (Nat × List V)) (H : Hp) : St := ⟨[(3, x3), (5, x5), (24, x24), (25, x25), (26, x26)], [], ⟨B, H⟩⟩
@[simp] theorem u27_0 (s : St) (k : K) : Run G c27_L0 s k = Run G c27_B0 { s with E := dropE [0, 2, 4, 7, 19, 27] s.E } (.seq c27_L0 k) := w_loop _ _ s k
abbrev S28_0 (x0 x3 x5 x6 x7 x8 : V) (B : List (Nat × List V)) (H : Hp) : St := ⟨[(0, x0), (3, x3), (5, x5), (6, x6), (7, x7), (8, x8)], [], ⟨B, H⟩⟩
@[simp] theorem u28_0 (s : St) (k : K) : Run G c28_L0 s k = Run G c28_B0 { s with E := dropE [4, 15, 23, 36, 87] s.E } (.seq c28_L0 k) := w_loop _ _ s k
abbrev S28_1 (x0 x3 x4 x5 x6 : V) (B : List (Nat × List V)) (H : Hp) : St := ⟨[(0, x0), (3, x3), (4, x4), (5, x5), (6, x6)], [], ⟨B, H⟩⟩
@[simp] theorem u28_1 (s : St) (k : K) : Run G c28_L1 s k = Run G c28_B1 { s with E := dropE [2, 7, 8, 11, 87] s.E } (.seq c28_L1 k) := w_loop _ _ s k
abbrev S29_0 (x0 x4 x5 x6 x7 x11 x12 x14 x15 : V) (B : List (Nat × List V)) (H : Hp) : St := ⟨[(0, x0), (4, x4), (5, x5), (6, x6), (7, x7), (11, x11), (12, x12), (14, x14), (15, x15)], [], ⟨B, H⟩⟩
@[simp] theorem u29_0 (s : St) (k : K) : Run G c29_L0 s k = Run G c29_B0 { s with E := dropE [8, 9, 10, 16, 26, 40, 42, 49, 64, 70] s.E } (.seq c29_L0 k) := w_loop _ _ s k
abbrev S29_1 (x0 x4 x5 x6 x7 x8 x14 x15 : V) (B : List (Nat × List V)) (H : Hp) : St := ⟨[(0, x0), (4, x4), (5, x5), (6, x6), (7, x7), (8, x8), (14, x14), (15, x15)], [], ⟨B, H⟩⟩
@[simp] theorem u29_1 (s : St) (k : K) : Run G c29_L1 s k = Run G c29_B1 { s with E := dropE [2, 3, 9, 10, 11, 12, 16, 26, 36, 40, 42, 49, 64, 83] s.E } (.seq c29_L1 k) := w_loop _ _ s k
abbrev S30_0 (x4 x8 x9 x10 : V) (B : List (Nat × List V)) (H : Hp) : St := ⟨[(4, x4), (8, x8), (9, x9), (10, x10)], [], ⟨B, H⟩⟩
@[simp] theorem u30_0 (s : St) (k : K) : Run G c30_L0 s k = Run G c30_B0 { s with E := dropE [0, 2, 3, 6, 11, 14, 19, 28] s.E } (.seq c30_L0 k) := w_loop _ _ s k
abbrev S30_1 (x4 x7 : V) (B : List (Nat × List V)) (H : Hp) : St := ⟨[(4, x4), (7, x7)], [], ⟨B, H⟩⟩
@[simp] theorem u30_1 (s : St) (k : K) : Run G c30_L1 s k = Run G c30_B1 { s with E := dropE [8, 9, 10, 11, 42, 56] s.E } (.seq c30_L1 k) := w_loop _ _ s k
abbrev S32_0 (x0 x1 x5 : V) (B : List (Nat × List V)) (H : Hp) : St := ⟨[(0, x0), (1, x1), (5, x5)], [], ⟨B, H⟩⟩
@[simp] theorem u32_0 (s : St) (k : K) : Run G c32_L0 s k = Run G c32_B0 { s with E := dropE [4, 15, 28, 50, 72] s.E } (.seq c32_L0 k) := w_loop _ _ s k
abbrev S34_0 (x3 x14 x15 x16 : V) (B : List (Nat × List V)) (H : Hp) : St := ⟨[(3, x3), (14, x14), (15, x15), (16, x16)], [], ⟨B, H⟩⟩
@[simp] theorem u34_0 (s : St) (k : K) : Run G c34_L0 s k = Run G c34_B0 { s with E := dropE [0, 2, 5, 17] s.E } (.seq c34_L0 k) := w_loop _ _ s k
abbrev S34_1 (x3 x6 x7 x25 x28 : V) (B : List (Nat × List V)) (H : Hp) : St := ⟨[(3, x3), (6, x6), (7, x7), (25, x25), (28, x28)], [], ⟨B, H⟩⟩
@[simp] theorem u34_1 (s : St) (k : K) : Run G c34_L1 s k = Run G c34_B1 { s with E := dropE [8, 9, 26, 29, 47] s.E } (.seq c34_L1 k) := w_loop _ _ s k
abbrev S34_2 (x3 x6 x25 : V) (B : List (Nat × List V)) (H : Hp) : St := ⟨[(3, x3), (6, x6), (25, x25)], [], ⟨B, H⟩⟩
@[simp] theorem u34_2 (s : St) (k : K) : Run G c34_L2 s k = Run G c34_B2 { s with E := dropE [7, 24, 28, 29] s.E } (.seq c34_L2 k) := w_loop _ _ s k
abbrev S34_3 (x3 x6 : V) (B : List (Nat × List V)) (H : Hp) : St := ⟨[(3, x3), (6, x6)], [], ⟨B, H⟩⟩
@[simp] theorem u34_3 (s : St) (k : K) : Run G c34_L3 s k = Run G c34_B3 { s with E := dropE [14, 15, 16, 17, 25, 26] s.E } (.seq c34_L3 k) := w_loop _ _ s k
abbrev S34_4 (x10 x52 x53 : V) (B : List (Nat × List V)) (H : Hp) : St := ⟨[(10, x10), (52, x52), (53, x53)], [], ⟨B, H⟩⟩
@[simp] theorem u34_4 (s : St) (k : K) : Run G c34_L4 s k = Run G c34_B4 { s with E := dropE [3, 6, 11, 12, 24, 54, 57] s.E } (.seq c34_L4 k) := w_loop _ _ s k
abbrev S36_0 (x0 x1 x5 : V) (B : List (Nat × List V)) (H : Hp) : St := ⟨[(0, x0), (1, x1), (5, x5)], [], ⟨B, H⟩⟩
@[simp] theorem u36_0 (s : St) (k : K) : Run G c36_L0 s k = Run G c36_B0 { s with E := dropE [4, 9, 17] s.E } (.seq c36_L0 k) := w_loop _ _ s k
abbrev S40_0 (x0 x3 x4 x5 : V) (B : List (Nat × List V)) (H : Hp) : St := ⟨[(0, x0), (3, x3), (4, x4), (5, x5)], [], ⟨B, H⟩⟩
@[simp] theorem u40_0 (s : St) (k : K) : Run G c40_L0 s k = Run G c40_B0 { s with E := dropE [1, 9, 20] s.E } (.seq c40_L0 k) := w_loop _ _ s k
abbrev S41_0 (x0 x4 x5 : V) (B : List (Nat × List V)) (H : Hp) : St := ⟨[(0, x0), (4, x4), (5, x5)], [], ⟨B, H⟩⟩
@[simp] theorem u41_0 (s : St) (k : K) : Run G c41_L0 s k = Run G c41_B0 { s with E := dropE [2, 3, 11, 25, 39] s.E } (.seq c41_L0 k) := w_loop _ _ s k
abbrev S41_1 (x0 x4 x6 : V) (B : List (Nat × List V)) (H : Hp) : St := ⟨[(0, x0), (4, x4), (6, x6)], [], ⟨B, H⟩⟩
@[simp] theorem u41_1 (s : St) (k : K) : Run G c41_L1 s k = Run G c41_B1 { s with E := dropE [5, 11, 43, 51] s.E } (.seq c41_L1 k) := w_loop _ _ s k
abbrev S41_2 (x4 x7 : V) (B : List (Nat × List V)) (H : Hp) : St := ⟨[(4, x4), (7, x7)], [], ⟨B, H⟩⟩
@[simp] theorem u41_2 (s : St) (k : K) : Run G c41_L2 s k = Run G c41_B2 { s with E := dropE [0, 6, 43, 61, 74] s.E } (.seq c41_L2 k) := w_loop _ _ s k
abbrev S44_0 (x0 x2 x4 x5 x6 x7 x8 : V) (B : List (Nat × List V)) (H : Hp) : St := ⟨[(0, x0), (2, x2), (4, x4), (5, x5), (6, x6), (7, x7), (8, x8)], [], ⟨B, H⟩⟩
@[simp] theorem u44_0 (s : St) (k : K) : Run G c44_L0 s k = Run G c44_B0 { s with E := dropE [3, 16, 37] s.E } (.seq c44_L0 k) := w_loop _ _ s k
abbrev S48_0 (x0 x2 x4 x5 x26 x27 x28 : V) (B : List (Nat × List V)) (H : Hp) : St := ⟨[(0, x0), (2, x2), (4, x4), (5, x5), (26, x26), (27, x27), (28, x28)], [], ⟨B, H⟩⟩
@[simp] theorem u48_0 (s : St) (k : K) : Run G c48_L0 s k = Run G c48_B0 { s with E := dropE [3, 7, 16, 29] s.E } (.seq c48_L0 k) := w_loop _ _ s k
abbrev S58_0 (x0 x2 x6 x7 x8 : V) (B : List (Nat × List V)) (H : Hp) : St := ⟨[(0, x0), (2, x2), (6, x6), (7, x7), (8, x8)], [], ⟨B, H⟩⟩
@[simp] theorem u58_0 (s : St) (k : K) : Run G c58_L0 s k = Run G c58_B0 { s with E := dropE [1, 5, 9, 18] s.E } (.seq c58_L0 k) := w_loop _ _ s k
abbrev S61_0 (x0 x1 x2 x11 x12 x13 : V) (B : List (Nat × List V)) (H : Hp) : St := ⟨[(0, x0), (1, x1), (2, x2), (11, x11), (12, x12), (13, x13)], [], ⟨B, H⟩⟩
@[simp] theorem u61_0 (s : St) (k : K) : Run G c61_L0 s k = Run G c61_B0 { s with E := dropE [6, 7, 8, 9, 10, 14, 21, 31] s.E } (.seq c61_L0 k) := w_loop _ _ s k
abbrev S63_0 (x1 x3 : V) (B : List (Nat × List V)) (H : Hp) : St := ⟨[(1, x1), (3, x3)], [], ⟨B, H⟩⟩
@[simp] theorem u63_0 (s : St) (k : K) : Run G c63_L0 s k = Run G c63_B0 { s with E := dropE [0, 2, 5, 12] s.E } (.seq c63_L0 k) := w_loop _ _ s k
abbrev S64_0 (x0 x3 x5 x6 x7 : V) (B : List (Nat × List V)) (H : Hp) : St := ⟨[(0, x0), (3, x3), (5, x5), (6, x6), (7, x7)], [], ⟨B, H⟩⟩
@[simp] theorem u64_0 (s : St) (k : K) : Run G c64_L0 s k = Run G c64_B0 { s with E := dropE [1, 4, 11, 23] s.E } (.seq c64_L0 k) := w_loop _ _ s k
abbrev S65_0 (x0 x1 x12 x13 : V) (B : List (Nat × List V)) (H : Hp) : St := ⟨[(0, x0), (1, x1), (12, x12), (13, x13)], [], ⟨B, H⟩⟩
@[simp] theorem u65_0 (s : St) (k : K) : Run G c65_L0 s k = Run G c65_B0 { s with E := dropE [4, 5, 10, 14, 24] s.E } (.seq c65_L0 k) := w_loop _ _ s k
abbrev S71_0 (x0 x1 x2 x3 x4 x10 x11 : V) (B : List (Nat × List V)) (H : Hp) : St := ⟨[(0, x0), (1, x1), (2, x2), (3, x3), (4, x4), (10, x10), (11, x11)], [], ⟨B, H⟩⟩
@[simp] theorem u71_0 (s : St) (k : K) : Run G c71_L0 s k = Run G c71_B0 { s with E := dropE [12, 13, 14, 15, 16, 17, 18, 19, 20, 25, 32, 39, 56, 75, 80, 97, 125] s.E } (.seq c71_L0 k) := w_loop _ _ s k
abbrev S73_0 (x0 x6 x16 x17 x18 : V) (B : List (Nat × List V)) (H : Hp) : St := ⟨[(0, x0), (6, x6), (16, x16), (17, x17), (18, x18)], [], ⟨B, H⟩⟩
@[simp] theorem u73_0 (s : St) (k : K) : Run G c73_L0 s k = Run G c73_B0 { s with E := dropE [1, 4, 5, 8, 9, 12, 19] s.E } (.seq c73_L0 k) := w_loop _ _ s k
abbrev S75_0 (x0 x3 x7 x8 : V) (B : List (Nat × List V)) (H : Hp) : St := ⟨[(0, x0), (3, x3), (7, x7), (8, x8)], [], ⟨B, H⟩⟩
@[simp] theorem u75_0 (s : St) (k : K) : Run G c75_L0 s k = Run G c75_B0 { s with E := dropE [1, 4, 5, 9, 16] s.E } (.seq c75_L0 k) := w_loop _ _ s k
abbrev S76_0 (x3 x6 x7 x8 : V) (B : List (Nat × List V)) (H : Hp) : St := ⟨[(3, x3), (6, x6), (7, x7), (8, x8)], [], ⟨B, H⟩⟩
@[simp] theorem u76_0 (s : St) (k : K) : Run G c76_L0 s k = Run G c76_B0 { s with E := dropE [0, 2, 5, 9, 14] s.E } (.seq c76_L0 k) := w_loop _ _ s k
abbrev S81_0 (x0 x1 x2 x3 x8 x9 : V) (B : List (Nat × List V)) (H : Hp) : St := ⟨[(0, x0), (1, x1), (2, x2), (3, x3), (8, x8), (9, x9)], [], ⟨B, H⟩⟩
@[simp] theorem u81_0 (s : St) (k : K) : Run G c81_L0 s k = Run G c81_B0 { s with E := dropE [14, 34] s.E } (.seq c81_L0 k) := w_loop _ _ s k
abbrev S81_1 (x0 x1 x2 x3 x8 : V) (B : List (Nat × List V)) (H : Hp) : St := ⟨[(0, x0), (1, x1), (2, x2), (3, x3), (8, x8)], [], ⟨B, H⟩⟩
@[simp] theorem u81_1 (s : St) (k : K) : Run G c81_L1 s k = Run G c81_B1 { s with E := dropE [9, 34] s.E } (.seq c81_L1 k) := w_loop _ _ s k
abbrev S82_0 (x0 x3 x8 x9 x10 x11 : V) (B : List (Nat × List V)) (H : Hp) : St := ⟨[(0, x0), (3, x3), (8, x8), (9, x9), (10, x10), (11, x11)], [], ⟨B, H⟩⟩
@[simp] theorem u82_0 (s : St) (k : K) : Run G c82_L0 s k = Run G c82_B0 { s with E := dropE [1, 2, 21] s.E } (.seq c82_L0 k) := w_loop _ _ s k
abbrev S82_1 (x0 x3 x8 x9 x12 : V) (B : List (Nat × List V)) (H : Hp) : St := ⟨[(0, x0), (3, x3), (8, x8), (9, x9), (12, x12)], [], ⟨B, H⟩⟩
@[simp] theorem u82_1 (s : St) (k : K) : Run G c82_L1 s k = Run G c82_B1 { s with E := dropE [10, 11, 21, 33] s.E } (.seq c82_L1 k) := w_loop _ _ s k
abbrev S83_0 (x0 x1 x8 x9 x10 x11 : V) (B : List (Nat × List V)) (H : Hp) : St := ⟨[(0, x0), (1, x1), (8, x8), (9, x9), (10, x10), (11, x11)], [], ⟨B, H⟩⟩
@[simp] theorem u83_0 (s : St) (k : K) : Run G c83_L0 s k = Run G c83_B0 { s with E := dropE [2, 3, 12, 17, 35, 45] s.E } (.seq c83_L0 k) := w_loop _ _ s k
abbrev S85_0 (x0 x8 x9 : V) (B : List (Nat × List V)) (H : Hp) : St := ⟨[(0, x0), (8, x8), (9, x9)], [], ⟨B, H⟩⟩
@[simp] theorem u85_0 (s : St) (k : K) : Run G c85_L0 s k = Run G c85_B0 { s with E := dropE [1, 2, 3, 15] s.E } (.seq c85_L0 k) := w_loop _ _ s k
abbrev S86_0 (x0 x1 x2 x3 x9 x10 : V) (B : List (Nat × List V)) (H : Hp) : St := ⟨[(0, x0), (1, x1), (2, x2), (3, x3), (9, x9), (10, x10)], [], ⟨B, H⟩⟩
@[simp] theorem u86_0 (s : St) (k : K) : Run G c86_L0 s k = Run G c86_B0 { s with E := dropE [16, 36] s.E } (.seq c86_L0 k) := w_loop _ _ s k
abbrev S86_1 (x0 x1 x2 x3 x9 x10 x11 : V) (B : List (Nat × List V)) (H : Hp) : St := ⟨[(0, x0), (1, x1), (2, x2), (3, x3), (9, x9), (10, x10), (11, x11)], [], ⟨B, H⟩⟩
@[simp] theorem u86_1 (s : St) (k : K) : Run G c86_L1 s k = Run G c86_B1 { s with E := dropE [36, 41, 45, 65, 69, 84] s.E } (.seq c86_L1 k) := w_loop _ _ s k
abbrev S86_2 (x0 x1 x2 x3 x9 x10 x12 : V) (B : List (Nat × List V)) (H : Hp) : St := ⟨[(0, x0), (1, x1), (2, x2), (3, x3), (9, x9), (10, x10), (12, x12)], [], ⟨B, H⟩⟩
@[simp] theorem u86_2 (s : St) (k : K) : Run G c86_L2 s k = Run G c86_B2 { s with E := dropE [11, 36, 41, 45, 65, 69, 84, 104, 109, 124] s.E } (.seq c86_L2 k) := w_loop _ _ s k
abbrev S86_3 (x0 x1 x2 x3 x9 x10 : V) (B : List (Nat × List V)) (H : Hp) : St := ⟨[(0, x0), (1, x1), (2, x2), (3, x3), (9, x9), (10, x10)], [], ⟨B, H⟩⟩
@[simp] theorem u86_3 (s : St) (k : K) : Run G c86_L3 s k = Run G c86_B3 { s with E := dropE [8, 11, 12, 36, 41, 45, 65, 69, 84, 104, 109, 124] s.E } (.seq c86_L3 k) := w_loop _ _ s k
abbrev S87_0 (x0 x1 x4 x11 x12 : V) (B : List (Nat × List V)) (H : Hp) : St := ⟨[(0, x0), (1, x1), (4, x4), (11, x11), (12, x12)], [], ⟨B, H⟩⟩
@[simp] theorem u87_0 (s : St) (k : K) : Run G c87_L0 s k = Run G c87_B0 { s with E := dropE [2, 3, 10, 47, 65, 70] s.E } (.seq c87_L0 k) := w_loop _ _ s k
abbrev S87_1 (x0 x1 x4 x11 x12 : V) (B : List (Nat × List V)) (H : Hp) : St := ⟨[(0, x0), (1, x1), (4, x4), (11, x11), (12, x12)], [], ⟨B, H⟩⟩
@[simp] theorem u87_1 (s : St) (k : K) : Run G c87_L1 s k = Run G c87_B1 { s with E := dropE [47, 65] s.E } (.seq c87_L1 k) := w_loop _ _ s k
abbrev S87_2 (x0 x1 x4 x11 x12 : V) (B : List (Nat × List V)) (H : Hp) : St := ⟨[(0, x0), (1, x1), (4, x4), (11, x11), (12, x12)], [], ⟨B, H⟩⟩
@[simp] theorem u87_2 (s : St) (k : K) : Run G c87_L2 s k = Run G c87_B2 { s with E := dropE [2, 3, 10, 47, 65, 70] s.E } (.seq c87_L2 k) := w_loop _ _ s k
abbrev S88_0 (x0 x1 x4 x12 x13 : V) (B : List (Nat × List V)) (H : Hp) : St := ⟨[(0, x0), (1, x1), (4, x4), (12, x12), (13, x13)], [], ⟨B, H⟩⟩
@[simp] theorem u88_0 (s : St) (k : K) : Run G c88_L0 s k = Run G c88_B0 { s with E := dropE [2, 3, 10, 11, 47] s.E } (.seq c88_L0 k) := w_loop _ _ s k
abbrev S88_1 (x0 x1 x4 x12 x13 : V) (B : List (Nat × List V)) (H : Hp) : St := ⟨[(0, x0), (1, x1), (4, x4), (12, x12), (13, x13)], [], ⟨B, H⟩⟩
@[simp] theorem u88_1 (s : St) (k : K) : Run G c88_L1 s k = Run G c88_B1 { s with E := dropE [47, 66] s.E } (.seq c88_L1 k) := w_loop _ _ s k
abbrev S88_2 (x0 x1 x4 x12 x13 : V) (B : List (Nat × List V)) (H : Hp) : St := ⟨[(0, x0), (1, x1), (4, x4), (12, x12), (13, x13)], [], ⟨B, H⟩⟩
@[simp] theorem u88_2 (s : St) (k : K) : Run G c88_L2 s k = Run G c88_B2 { s with E := dropE [66, 71, 120, 139, 144] s.E } (.seq c88_L2 k) := w_loop _ _ s k
abbrev S88_3 (x0 x1 x4 x12 x13 : V) (B : List (Nat × List V)) (H : Hp) : St := ⟨[(0, x0), (1, x1), (4, x4), (12, x12), (13, x13)], [], ⟨B, H⟩⟩
@[simp] theorem u88_3 (s : St) (k : K) : Run G c88_L3 s k = Run G c88_B3 { s with E := dropE [120, 139] s.E } (.seq c88_L3 k) := w_loop _ _ s k
abbrev S88_4 (x0 x1 x4 x12 x13 : V) (B : List (Nat × List V)) (H : Hp) : St := ⟨[(0, x0), (1, x1), (4, x4), (12, x12), (13, x13)], [], ⟨B, H⟩⟩
@[simp] theorem u88_4 (s : St) (k : K) : Run G c88_L4 s k = Run G c88_B4 { s with E := dropE [66, 71, 120, 139, 144] s.E } (.seq c88_L4 k) := w_loop _ _ s k
abbrev S95_0 (x0 x1 x4 : V) (B : List (Nat × List V)) (H : Hp) : St := ⟨[(0, x0), (1, x1), (4, x4)], [], ⟨B, H⟩⟩
@[simp] theorem u95_0 (s : St) (k : K) : Run G c95_L0 s k = Run G c95_B0 { s with E := dropE [5, 6, 7, 8, 9, 10, 11, 20] s.E } (.seq c95_L0 k) := w_loop _ _ s k
abbrev S97_0 (x0 x2 x3 x4 x10 : V) (B : List (Nat × List V)) (H : Hp) : St := ⟨[(0, x0), (2, x2), (3, x3), (4, x4), (10, x10)], [], ⟨B, H⟩⟩
@[simp] theorem u97_0 (s : St) (k : K) : Run G c97_L0 s k = Run G c97_B0 { s with E := dropE [1, 11, 18, 40, 58] s.E } (.seq c97_L0 k) := w_loop _ _ s k
end Go.Mx.Tryd
