/- The loops of this seat, one round at a time. -/
import Derived.Test.YtjkepihkilnjiaaGreatDoorSeat
namespace Go.Mx.Tryz
abbrev S6_0 (x8 x10 x23 x24 : V) (B : List (Nat × List V)) (H : Hp) : St := ⟨[(8, x8), (10, x10), (23, x23), (24, x24)], [], ⟨B, H⟩⟩
@[simp] theorem u6_0 (s : St) (k : K) : Run G c6_L0 s k = Run G c6_B0 { s with E := dropE [0, 1, 2, 3, 6, 7, 9, 11, 20, 25] s.E } (.seq c6_L0 k) := w_loop _ _ s k
abbrev S7_0 (x8 x10 x11 : V) (B : List (Nat × List V)) (H : Hp) : St := ⟨[(8, x8), (10, x10), (11, x11)], [], ⟨B, H⟩⟩
@[simp] theorem u7_0 (s : St) (k : K) : Run G c7_L0 s k = Run G c7_B0 { s with E := dropE [0, 1, 2, 3, 6, 7, 9, 20, 25] s.E } (.seq c7_L0 k) := w_loop _ _ s k
abbrev S8_0 (x0 x1 x12 x13 : V) (B : List (Nat × List V)) (H : Hp) : St := ⟨[(0, x0), (1, x1), (12, x12), (13, x13)], [], ⟨B, H⟩⟩
@[simp] theorem u8_0 (s : St) (k : K) : Run G c8_L0 s k = Run G c8_B0 { s with E := dropE [4, 5, 10, 14, 24] s.E } (.seq c8_L0 k) := w_loop _ _ s k
abbrev S9_0 (x1 x16 x17 : V) (B : List (Nat × List V)) (H : Hp) : St := ⟨[(1, x1), (16, x16), (17, x17)], [], ⟨B, H⟩⟩
@[simp] theorem u9_0 (s : St) (k : K) : Run G c9_L0 s k = Run G c9_B0 { s with E := dropE [0, 2, 3, 13, 18, 27] s.E } (.seq c9_L0 k) := w_loop _ _ s k
abbrev S10_0 (x0 x1 x6 x8 x9 x10 x11 x12 x13 : V) (B : List (Nat × List V)) (H : Hp) : St := ⟨[(0, x0), (1, x1), (6, x6), (8, x8), (9, x9), (10, x10), (11, x11), (12, x12), (13, x13)], [], ⟨B, H⟩⟩
@[simp] theorem u10_0 (s : St) (k : K) : Run G c10_L0 s k = Run G c10_B0 { s with E := dropE [48, 54] s.E } (.seq c10_L0 k) := w_loop _ _ s k
abbrev S10_1 (x0 x1 x6 x8 x9 x10 x11 : V) (B : List (Nat × List V)) (H : Hp) : St := ⟨[(0, x0), (1, x1), (6, x6), (8, x8), (9, x9), (10, x10), (11, x11)], [], ⟨B, H⟩⟩
@[simp] theorem u10_1 (s : St) (k : K) : Run G c10_L1 s k = Run G c10_B1 { s with E := dropE [2, 7, 12, 13, 35, 54] s.E } (.seq c10_L1 k) := w_loop _ _ s k
abbrev S10_2 (x0 x1 x6 x8 x14 : V) (B : List (Nat × List V)) (H : Hp) : St := ⟨[(0, x0), (1, x1), (6, x6), (8, x8), (14, x14)], [], ⟨B, H⟩⟩
@[simp] theorem u10_2 (s : St) (k : K) : Run G c10_L2 s k = Run G c10_B2 { s with E := dropE [9, 10, 11, 48, 87] s.E } (.seq c10_L2 k) := w_loop _ _ s k
abbrev S11_0 (x0 x1 x7 x8 : V) (B : List (Nat × List V)) (H : Hp) : St := ⟨[(0, x0), (1, x1), (7, x7), (8, x8)], [], ⟨B, H⟩⟩
@[simp] theorem u11_0 (s : St) (k : K) : Run G c11_L0 s k = Run G c11_B0 { s with E := dropE [4, 5, 6, 13, 15, 21] s.E } (.seq c11_L0 k) := w_loop _ _ s k
abbrev S12_0 (x3 x4 x17 x18 x19 : V) (B : List (Nat × List V)) (H : Hp) : St := ⟨[(3, x3), (4, x4), (17, x17), (18, x18), (19, x19)], [], ⟨B, H⟩⟩
@[simp] theorem u12_0 (s : St) (k : K) : Run G c12_L0 s k = Run G c12_B0 { s with E := dropE [0, 1, 5, 6, 8, 16, 20, 29] s.E } (.seq c12_L0 k) := w_loop _ _ s k
abbrev S13_0 (x6 x26 x27 x28 : V) (B : List (Nat × List V)) (H : Hp) : St := ⟨[(6, x6), (26, x26), (27, x27), (28, x28)], [], ⟨B, H⟩⟩
@[simp] theorem u13_0 (s : St) (k : K) : Run G c13_L0 s k = Run G c13_B0 { s with E := dropE [0, 1, 4, 5, 8, 19, 23, 29] s.E } (.seq c13_L0 k) := w_loop _ _ s k
abbrev S14_0 (x0 x1 x12 x13 : V) (B : List (Nat × List V)) (H : Hp) : St := ⟨[(0, x0), (1, x1), (12, x12), (13, x13)], [], ⟨B, H⟩⟩
@[simp] theorem u14_0 (s : St) (k : K) : Run G c14_L0 s k = Run G c14_B0 { s with E := dropE [4, 5, 10, 14, 24] s.E } (.seq c14_L0 k) := w_loop _ _ s k
abbrev S15_0 (x3 x8 x9 x10 x36 x37 : V) (B : List (Nat × List V)) (H : Hp) : St := ⟨[(3, x3), (8, x8), (9, x9), (10, x10), (36, x36), (37, x37)], [], ⟨B, H⟩⟩
@[simp] theorem u15_0 (s : St) (k : K) : Run G c15_L0 s k = Run G c15_B0 { s with E := dropE [5, 6, 7, 11, 38, 42] s.E } (.seq c15_L0 k) := w_loop _ _ s k
abbrev S15_1 (x3 x8 x9 x10 : V) (B : List (Nat × List V)) (H : Hp) : St := ⟨[(3, x3), (8, x8), (9, x9), (10, x10)], [], ⟨B, H⟩⟩
@[simp] theorem u15_1 (s : St) (k : K) : Run G c15_L1 s k = Run G c15_B1 { s with E := dropE [0, 2, 36, 37, 38] s.E } (.seq c15_L1 k) := w_loop _ _ s k
abbrev S16_0 (x2 x6 x7 x8 x38 x39 x40 : V) (B : List (Nat × List V)) (H : Hp) : St := ⟨[(2, x2), (6, x6), (7, x7), (8, x8), (38, x38), (39, x39), (40, x40)], [], ⟨B, H⟩⟩
@[simp] theorem u16_0 (s : St) (k : K) : Run G c16_L0 s k = Run G c16_B0 { s with E := dropE [0, 1, 10, 23, 41] s.E } (.seq c16_L0 k) := w_loop _ _ s k
abbrev S16_1 (x6 x7 x8 x53 x54 x55 : V) (B : List (Nat × List V)) (H : Hp) : St := ⟨[(6, x6), (7, x7), (8, x8), (53, x53), (54, x54), (55, x55)], [], ⟨B, H⟩⟩
@[simp] theorem u16_1 (s : St) (k : K) : Run G c16_L1 s k = Run G c16_B1 { s with E := dropE [2, 12, 13, 14, 15, 38, 39, 40, 41, 56, 70, 77] s.E } (.seq c16_L1 k) := w_loop _ _ s k
abbrev S17_0 (x3 x9 x26 x27 : V) (B : List (Nat × List V)) (H : Hp) : St := ⟨[(3, x3), (9, x9), (26, x26), (27, x27)], [], ⟨B, H⟩⟩
@[simp] theorem u17_0 (s : St) (k : K) : Run G c17_L0 s k = Run G c17_B0 { s with E := dropE [0, 1, 2, 6, 7, 8, 10, 11, 16, 23, 28, 41] s.E } (.seq c17_L0 k) := w_loop _ _ s k
abbrev S18_0 (x2 x3 x9 x10 : V) (B : List (Nat × List V)) (H : Hp) : St := ⟨[(2, x2), (3, x3), (9, x9), (10, x10)], [], ⟨B, H⟩⟩
@[simp] theorem u18_0 (s : St) (k : K) : Run G c18_L0 s k = Run G c18_B0 { s with E := dropE [0, 1, 6, 7, 8, 11, 12, 17, 24, 29, 42] s.E } (.seq c18_L0 k) := w_loop _ _ s k
abbrev S19_0 (x1 x2 x6 x9 x10 : V) (B : List (Nat × List V)) (H : Hp) : St := ⟨[(1, x1), (2, x2), (6, x6), (9, x9), (10, x10)], [], ⟨B, H⟩⟩
@[simp] theorem u19_0 (s : St) (k : K) : Run G c19_L0 s k = Run G c19_B0 { s with E := dropE [0, 7, 11, 20, 35, 51, 62] s.E } (.seq c19_L0 k) := w_loop _ _ s k
abbrev S19_1 (x1 x2 x6 x9 x12 : V) (B : List (Nat × List V)) (H : Hp) : St := ⟨[(1, x1), (2, x2), (6, x6), (9, x9), (12, x12)], [], ⟨B, H⟩⟩
@[simp] theorem u19_1 (s : St) (k : K) : Run G c19_L1 s k = Run G c19_B1 { s with E := dropE [10, 35, 70, 85] s.E } (.seq c19_L1 k) := w_loop _ _ s k
abbrev S20_0 (x0 x3 : V) (B : List (Nat × List V)) (H : Hp) : St := ⟨[(0, x0), (3, x3)], [], ⟨B, H⟩⟩
@[simp] theorem u20_0 (s : St) (k : K) : Run G c20_L0 s k = Run G c20_B0 { s with E := dropE [2, 4, 12, 16, 54] s.E } (.seq c20_L0 k) := w_loop _ _ s k
abbrev S21_0 (x1 x2 x6 x7 x8 : V) (B : List (Nat × List V)) (H : Hp) : St := ⟨[(1, x1), (2, x2), (6, x6), (7, x7), (8, x8)], [], ⟨B, H⟩⟩
@[simp] theorem u21_0 (s : St) (k : K) : Run G c21_L0 s k = Run G c21_B0 { s with E := dropE [0, 13] s.E } (.seq c21_L0 k) := w_loop _ _ s k
abbrev S23_0 (x0 x8 x9 x10 : V) (B : List (Nat × List V)) (H : Hp) : St := ⟨[(0, x0), (8, x8), (9, x9), (10, x10)], [], ⟨B, H⟩⟩
@[simp] theorem u23_0 (s : St) (k : K) : Run G c23_L0 s k = Run G c23_B0 { s with E := dropE [2, 3, 4, 7, 11, 42] s.E } (.seq c23_L0 k) := w_loop _ _ s k
abbrev S26_0 (x0 x3 x6 x7 : V) (B : List (Nat × List V)) (H : Hp) : St := ⟨[(0, x0), (3, x3), (6, x6), (7, x7)], [], ⟨B, H⟩⟩
@[simp] theorem u26_0 (s : St) (k : K) : Run G c26_L0 s k = Run G c26_B0 { s with E := dropE [2, 4, 8] s.E } (.seq c26_L0 k) := w_loop _ _ s k
abbrev S31_0 (x0 x2 x4 x5 x26 x27 x28 : V) (B : List (Nat × List V)) (H : Hp) : St := ⟨[(0, x0), (2, x2), (4, x4), (5, x5), (26, x26), (27, x27), (28, x28)], [], ⟨B, H⟩⟩
@[simp] theorem u31_0 (s : St) (k : K) : Run G c31_L0 s k = Run G c31_B0 { s with E := dropE [3, 7, 16, 29] s.E } (.seq c31_L0 k) := w_loop _ _ s k
abbrev S33_0 (x2 x6 x7 x8 x10 x18 x19 x20 x25 x26 x27 : V) (B : List (Nat × List V)) (H : Hp) : St := ⟨[(2, x2), (6, x6), (7, x7), (8, x8), (10, x10), (18, x18), (19, x19), (20, x20), (25, x25), (26, x26), (27, x27)], [], ⟨B, H⟩⟩
@[simp] theorem u33_0 (s : St) (k : K) : Run G c33_L0 s k = Run G c33_B0 { s with E := dropE [12, 13, 14, 21, 28, 44, 52, 55] s.E } (.seq c33_L0 k) := w_loop _ _ s k
abbrev S33_1 (x2 x6 x7 x8 x18 x19 x20 : V) (B : List (Nat × List V)) (H : Hp) : St := ⟨[(2, x2), (6, x6), (7, x7), (8, x8), (18, x18), (19, x19), (20, x20)], [], ⟨B, H⟩⟩
@[simp] theorem u33_1 (s : St) (k : K) : Run G c33_L1 s k = Run G c33_B1 { s with E := dropE [0, 1, 4, 5, 10, 25, 26, 27, 28] s.E } (.seq c33_L1 k) := w_loop _ _ s k
abbrev S34_0 (x1 x2 x5 : V) (B : List (Nat × List V)) (H : Hp) : St := ⟨[(1, x1), (2, x2), (5, x5)], [], ⟨B, H⟩⟩
@[simp] theorem u34_0 (s : St) (k : K) : Run G c34_L0 s k = Run G c34_B0 { s with E := dropE [0, 4, 8, 11, 15, 25] s.E } (.seq c34_L0 k) := w_loop _ _ s k
abbrev S35_0 (x2 x7 x8 x9 x10 x11 : V) (B : List (Nat × List V)) (H : Hp) : St := ⟨[(2, x2), (7, x7), (8, x8), (9, x9), (10, x10), (11, x11)], [], ⟨B, H⟩⟩
@[simp] theorem u35_0 (s : St) (k : K) : Run G c35_L0 s k = Run G c35_B0 { s with E := dropE [0, 1, 4, 5, 6, 12, 13, 18, 27, 42] s.E } (.seq c35_L0 k) := w_loop _ _ s k
abbrev S36_0 (x0 x3 : V) (B : List (Nat × List V)) (H : Hp) : St := ⟨[(0, x0), (3, x3)], [], ⟨B, H⟩⟩
@[simp] theorem u36_0 (s : St) (k : K) : Run G c36_L0 s k = Run G c36_B0 { s with E := dropE [2, 7, 54] s.E } (.seq c36_L0 k) := w_loop _ _ s k
abbrev S37_0 (x0 x2 x4 x5 x6 x7 x8 : V) (B : List (Nat × List V)) (H : Hp) : St := ⟨[(0, x0), (2, x2), (4, x4), (5, x5), (6, x6), (7, x7), (8, x8)], [], ⟨B, H⟩⟩
@[simp] theorem u37_0 (s : St) (k : K) : Run G c37_L0 s k = Run G c37_B0 { s with E := dropE [3, 16, 37] s.E } (.seq c37_L0 k) := w_loop _ _ s k
abbrev S38_0 (x0 x1 x2 x7 : V) (B : List (Nat × List V)) (H : Hp) : St := ⟨[(0, x0), (1, x1), (2, x2), (7, x7)], [], ⟨B, H⟩⟩
@[simp] theorem u38_0 (s : St) (k : K) : Run G c38_L0 s k = Run G c38_B0 { s with E := dropE [6, 11, 29] s.E } (.seq c38_L0 k) := w_loop _ _ s k
abbrev S47_0 (x3 x7 x8 x9 : V) (B : List (Nat × List V)) (H : Hp) : St := ⟨[(3, x3), (7, x7), (8, x8), (9, x9)], [], ⟨B, H⟩⟩
@[simp] theorem u47_0 (s : St) (k : K) : Run G c47_L0 s k = Run G c47_B0 { s with E := dropE [0, 2, 5, 10] s.E } (.seq c47_L0 k) := w_loop _ _ s k
abbrev S48_0 (x0 x4 x5 x7 x15 x16 x17 : V) (B : List (Nat × List V)) (H : Hp) : St := ⟨[(0, x0), (4, x4), (5, x5), (7, x7), (15, x15), (16, x16), (17, x17)], [], ⟨B, H⟩⟩
@[simp] theorem u48_0 (s : St) (k : K) : Run G c48_L0 s k = Run G c48_B0 { s with E := dropE [1, 2, 6, 9, 18] s.E } (.seq c48_L0 k) := w_loop _ _ s k
abbrev S50_0 (x4 x8 x9 x10 : V) (B : List (Nat × List V)) (H : Hp) : St := ⟨[(4, x4), (8, x8), (9, x9), (10, x10)], [], ⟨B, H⟩⟩
@[simp] theorem u50_0 (s : St) (k : K) : Run G c50_L0 s k = Run G c50_B0 { s with E := dropE [0, 2, 3, 6, 11, 14, 19, 28] s.E } (.seq c50_L0 k) := w_loop _ _ s k
abbrev S50_1 (x4 x7 : V) (B : List (Nat × List V)) (H : Hp) : St := ⟨[(4, x4), (7, x7)], [], ⟨B, H⟩⟩
@[simp] theorem u50_1 (s : St) (k : K) : Run G c50_L1 s k = Run G c50_B1 { s with E := dropE [8, 9, 10, 11, 42, 56] s.E } (.seq c50_L1 k) := w_loop _ _ s k
abbrev S52_0 (x0 x2 x3 x5 x6 : V) (B : List (Nat × List V)) (H : Hp) : St := ⟨[(0, x0), (2, x2), (3, x3), (5, x5), (6, x6)], [], ⟨B, H⟩⟩
@[simp] theorem u52_0 (s : St) (k : K) : Run G c52_L0 s k = Run G c52_B0 { s with E := dropE [23, 35] s.E } (.seq c52_L0 k) := w_loop _ _ s k
abbrev S53_0 (x1 x3 x4 x5 : V) (B : List (Nat × List V)) (H : Hp) : St := ⟨[(1, x1), (3, x3), (4, x4), (5, x5)], [], ⟨B, H⟩⟩
@[simp] theorem u53_0 (s : St) (k : K) : Run G c53_L0 s k = Run G c53_B0 { s with E := dropE [25, 41] s.E } (.seq c53_L0 k) := w_loop _ _ s k
abbrev S53_1 (x1 x3 x4 : V) (B : List (Nat × List V)) (H : Hp) : St := ⟨[(1, x1), (3, x3), (4, x4)], [], ⟨B, H⟩⟩
@[simp] theorem u53_1 (s : St) (k : K) : Run G c53_L1 s k = Run G c53_B1 { s with E := dropE [0, 2, 5, 11, 41] s.E } (.seq c53_L1 k) := w_loop _ _ s k
abbrev S53_2 (x1 x3 x6 x7 x8 : V) (B : List (Nat × List V)) (H : Hp) : St := ⟨[(1, x1), (3, x3), (6, x6), (7, x7), (8, x8)], [], ⟨B, H⟩⟩
@[simp] theorem u53_2 (s : St) (k : K) : Run G c53_L2 s k = Run G c53_B2 { s with E := dropE [9, 59, 63, 87] s.E } (.seq c53_L2 k) := w_loop _ _ s k
abbrev S53_3 (x1 x3 x6 x7 : V) (B : List (Nat × List V)) (H : Hp) : St := ⟨[(1, x1), (3, x3), (6, x6), (7, x7)], [], ⟨B, H⟩⟩
@[simp] theorem u53_3 (s : St) (k : K) : Run G c53_L3 s k = Run G c53_B3 { s with E := dropE [8, 55, 63] s.E } (.seq c53_L3 k) := w_loop _ _ s k
abbrev S53_4 (x1 x3 x6 : V) (B : List (Nat × List V)) (H : Hp) : St := ⟨[(1, x1), (3, x3), (6, x6)], [], ⟨B, H⟩⟩
@[simp] theorem u53_4 (s : St) (k : K) : Run G c53_L4 s k = Run G c53_B4 { s with E := dropE [0, 2, 7, 11, 59] s.E } (.seq c53_L4 k) := w_loop _ _ s k
abbrev S54_0 (x2 x3 x4 x5 x9 x10 : V) (B : List (Nat × List V)) (H : Hp) : St := ⟨[(2, x2), (3, x3), (4, x4), (5, x5), (9, x9), (10, x10)], [], ⟨B, H⟩⟩
@[simp] theorem u54_0 (s : St) (k : K) : Run G c54_L0 s k = Run G c54_B0 { s with E := dropE [0, 1, 8, 15] s.E } (.seq c54_L0 k) := w_loop _ _ s k
abbrev S56_0 (x0 x4 x5 : V) (B : List (Nat × List V)) (H : Hp) : St := ⟨[(0, x0), (4, x4), (5, x5)], [], ⟨B, H⟩⟩
@[simp] theorem u56_0 (s : St) (k : K) : Run G c56_L0 s k = Run G c56_B0 { s with E := dropE [2, 3, 11, 25, 39] s.E } (.seq c56_L0 k) := w_loop _ _ s k
abbrev S56_1 (x0 x4 x6 : V) (B : List (Nat × List V)) (H : Hp) : St := ⟨[(0, x0), (4, x4), (6, x6)], [], ⟨B, H⟩⟩
@[simp] theorem u56_1 (s : St) (k : K) : Run G c56_L1 s k = Run G c56_B1 { s with E := dropE [5, 11, 43, 51] s.E } (.seq c56_L1 k) := w_loop _ _ s k
abbrev S56_2 (x4 x7 : V) (B : List (Nat × List V)) (H : Hp) : St := ⟨[(4, x4), (7, x7)], [], ⟨B, H⟩⟩
@[simp] theorem u56_2 (s : St) (k : K) : Run G c56_L2 s k = Run G c56_B2 { s with E := dropE [0, 6, 43, 61, 74] s.E } (.seq c56_L2 k) := w_loop _ _ s k
abbrev S62_0 (x1 x4 x5 x47 x48 x49 x74 x75 x76 : V) (B : List (Nat × List V)) (H : Hp) : St := ⟨[(1, x1), (4, x4), (5, x5), (47, x47), (48, x48), (49, x49), (74, x74), (75, x75), (76, x76)], [], ⟨B, H⟩⟩
@[simp] theorem u62_0 (s : St) (k : K) : Run G c62_L0 s k = Run G c62_B0 { s with E := dropE [7, 50, 72, 77, 114] s.E } (.seq c62_L0 k) := w_loop _ _ s k
abbrev S62_1 (x1 x47 x48 x49 : V) (B : List (Nat × List V)) (H : Hp) : St := ⟨[(1, x1), (47, x47), (48, x48), (49, x49)], [], ⟨B, H⟩⟩
@[simp] theorem u62_1 (s : St) (k : K) : Run G c62_L1 s k = Run G c62_B1 { s with E := dropE [0, 2, 3, 4, 5, 45, 74, 75, 76, 77] s.E } (.seq c62_L1 k) := w_loop _ _ s k
abbrev S63_0 (x2 x5 x12 x13 x14 : V) (B : List (Nat × List V)) (H : Hp) : St := ⟨[(2, x2), (5, x5), (12, x12), (13, x13), (14, x14)], [], ⟨B, H⟩⟩
@[simp] theorem u63_0 (s : St) (k : K) : Run G c63_L0 s k = Run G c63_B0 { s with E := dropE [0, 1, 4, 7, 15] s.E } (.seq c63_L0 k) := w_loop _ _ s k
abbrev S65_0 (x1 x3 x4 x5 x6 : V) (B : List (Nat × List V)) (H : Hp) : St := ⟨[(1, x1), (3, x3), (4, x4), (5, x5), (6, x6)], [], ⟨B, H⟩⟩
@[simp] theorem u65_0 (s : St) (k : K) : Run G c65_L0 s k = Run G c65_B0 { s with E := dropE [7, 35, 61, 65, 74, 83, 103] s.E } (.seq c65_L0 k) := w_loop _ _ s k
abbrev S65_1 (x1 x3 x4 : V) (B : List (Nat × List V)) (H : Hp) : St := ⟨[(1, x1), (3, x3), (4, x4)], [], ⟨B, H⟩⟩
@[simp] theorem u65_1 (s : St) (k : K) : Run G c65_L1 s k = Run G c65_B1 { s with E := dropE [0, 2, 5, 6, 32, 65] s.E } (.seq c65_L1 k) := w_loop _ _ s k
abbrev S66_0 (x1 x2 x6 : V) (B : List (Nat × List V)) (H : Hp) : St := ⟨[(1, x1), (2, x2), (6, x6)], [], ⟨B, H⟩⟩
@[simp] theorem u66_0 (s : St) (k : K) : Run G c66_L0 s k = Run G c66_B0 { s with E := dropE [0, 4, 5, 9, 15, 19, 35] s.E } (.seq c66_L0 k) := w_loop _ _ s k
abbrev S67_0 (x1 x3 x5 x7 : V) (B : List (Nat × List V)) (H : Hp) : St := ⟨[(1, x1), (3, x3), (5, x5), (7, x7)], [], ⟨B, H⟩⟩
@[simp] theorem u67_0 (s : St) (k : K) : Run G c67_L0 s k = Run G c67_B0 { s with E := dropE [0, 2, 6, 8, 9, 12, 44] s.E } (.seq c67_L0 k) := w_loop _ _ s k
abbrev S69_0 (x1 x2 x5 x6 : V) (B : List (Nat × List V)) (H : Hp) : St := ⟨[(1, x1), (2, x2), (5, x5), (6, x6)], [], ⟨B, H⟩⟩
@[simp] theorem u69_0 (s : St) (k : K) : Run G c69_L0 s k = Run G c69_B0 { s with E := dropE [0, 4, 14] s.E } (.seq c69_L0 k) := w_loop _ _ s k
abbrev S70_0 (x0 x3 x5 x6 x7 : V) (B : List (Nat × List V)) (H : Hp) : St := ⟨[(0, x0), (3, x3), (5, x5), (6, x6), (7, x7)], [], ⟨B, H⟩⟩
@[simp] theorem u70_0 (s : St) (k : K) : Run G c70_L0 s k = Run G c70_B0 { s with E := dropE [1, 4, 11, 23] s.E } (.seq c70_L0 k) := w_loop _ _ s k
abbrev S71_0 (x3 x6 x7 x8 : V) (B : List (Nat × List V)) (H : Hp) : St := ⟨[(3, x3), (6, x6), (7, x7), (8, x8)], [], ⟨B, H⟩⟩
@[simp] theorem u71_0 (s : St) (k : K) : Run G c71_L0 s k = Run G c71_B0 { s with E := dropE [0, 2, 5, 9, 14] s.E } (.seq c71_L0 k) := w_loop _ _ s k
abbrev S75_0 (x0 x1 x4 : V) (B : List (Nat × List V)) (H : Hp) : St := ⟨[(0, x0), (1, x1), (4, x4)], [], ⟨B, H⟩⟩
@[simp] theorem u75_0 (s : St) (k : K) : Run G c75_L0 s k = Run G c75_B0 { s with E := dropE [5, 6, 7, 8, 9, 10, 11, 20] s.E } (.seq c75_L0 k) := w_loop _ _ s k
abbrev S77_0 (x0 x13 x14 x15 : V) (B : List (Nat × List V)) (H : Hp) : St := ⟨[(0, x0), (13, x13), (14, x14), (15, x15)], [], ⟨B, H⟩⟩
@[simp] theorem u77_0 (s : St) (k : K) : Run G c77_L0 s k = Run G c77_B0 { s with E := dropE [2, 3, 4, 12, 16, 51] s.E } (.seq c77_L0 k) := w_loop _ _ s k
abbrev S78_0 (x0 x1 x2 x3 x4 x10 x11 : V) (B : List (Nat × List V)) (H : Hp) : St := ⟨[(0, x0), (1, x1), (2, x2), (3, x3), (4, x4), (10, x10), (11, x11)], [], ⟨B, H⟩⟩
@[simp] theorem u78_0 (s : St) (k : K) : Run G c78_L0 s k = Run G c78_B0 { s with E := dropE [12, 13, 14, 15, 16, 17, 18, 19, 20, 25, 32, 39, 56, 75, 80, 97, 125] s.E } (.seq c78_L0 k) := w_loop _ _ s k
abbrev S86_0 (x0 x1 x2 x3 x8 x9 : V) (B : List (Nat × List V)) (H : Hp) : St := ⟨[(0, x0), (1, x1), (2, x2), (3, x3), (8, x8), (9, x9)], [], ⟨B, H⟩⟩
@[simp] theorem u86_0 (s : St) (k : K) : Run G c86_L0 s k = Run G c86_B0 { s with E := dropE [14, 34] s.E } (.seq c86_L0 k) := w_loop _ _ s k
abbrev S86_1 (x0 x1 x2 x3 x8 : V) (B : List (Nat × List V)) (H : Hp) : St := ⟨[(0, x0), (1, x1), (2, x2), (3, x3), (8, x8)], [], ⟨B, H⟩⟩
@[simp] theorem u86_1 (s : St) (k : K) : Run G c86_L1 s k = Run G c86_B1 { s with E := dropE [9, 34] s.E } (.seq c86_L1 k) := w_loop _ _ s k
abbrev S87_0 (x0 x3 x8 x9 x10 x11 : V) (B : List (Nat × List V)) (H : Hp) : St := ⟨[(0, x0), (3, x3), (8, x8), (9, x9), (10, x10), (11, x11)], [], ⟨B, H⟩⟩
@[simp] theorem u87_0 (s : St) (k : K) : Run G c87_L0 s k = Run G c87_B0 { s with E := dropE [1, 2, 21] s.E } (.seq c87_L0 k) := w_loop _ _ s k
abbrev S87_1 (x0 x3 x8 x9 x12 : V) (B : List (Nat × List V)) (H : Hp) : St := ⟨[(0, x0), (3, x3), (8, x8), (9, x9), (12, x12)], [], ⟨B, H⟩⟩
@[simp] theorem u87_1 (s : St) (k : K) : Run G c87_L1 s k = Run G c87_B1 { s with E := dropE [10, 11, 21, 33] s.E } (.seq c87_L1 k) := w_loop _ _ s k
abbrev S88_0 (x0 x1 x8 x9 x10 x11 : V) (B : List (Nat × List V)) (H : Hp) : St := ⟨[(0, x0), (1, x1), (8, x8), (9, x9), (10, x10), (11, x11)], [], ⟨B, H⟩⟩
@[simp] theorem u88_0 (s : St) (k : K) : Run G c88_L0 s k = Run G c88_B0 { s with E := dropE [2, 3, 12, 17, 35, 45] s.E } (.seq c88_L0 k) := w_loop _ _ s k
abbrev S90_0 (x0 x8 x9 : V) (B : List (Nat × List V)) (H : Hp) : St := ⟨[(0, x0), (8, x8), (9, x9)], [], ⟨B, H⟩⟩
@[simp] theorem u90_0 (s : St) (k : K) : Run G c90_L0 s k = Run G c90_B0 { s with E := dropE [1, 2, 3, 15] s.E } (.seq c90_L0 k) := w_loop _ _ s k
abbrev S91_0 (x0 x1 x2 x3 x9 x10 : V) (B : List (Nat × List V)) (H : Hp) : St := ⟨[(0, x0), (1, x1), (2, x2), (3, x3), (9, x9), (10, x10)], [], ⟨B, H⟩⟩
@[simp] theorem u91_0 (s : St) (k : K) : Run G c91_L0 s k = Run G c91_B0 { s with E := dropE [16, 36] s.E } (.seq c91_L0 k) := w_loop _ _ s k
abbrev S91_1 (x0 x1 x2 x3 x9 x10 x11 : V) (B : List (Nat × List V)) (H : Hp) : St := ⟨[(0, x0), (1, x1), (2, x2), (3, x3), (9, x9), (10, x10), (11, x11)], [], ⟨B, H⟩⟩
@[simp] theorem u91_1 (s : St) (k : K) : Run G c91_L1 s k = Run G c91_B1 { s with E := dropE [36, 41, 45, 65, 69, 84] s.E } (.seq c91_L1 k) := w_loop _ _ s k
abbrev S91_2 (x0 x1 x2 x3 x9 x10 x12 : V) (B : List (Nat × List V)) (H : Hp) : St := ⟨[(0, x0), (1, x1), (2, x2), (3, x3), (9, x9), (10, x10), (12, x12)], [], ⟨B, H⟩⟩
@[simp] theorem u91_2 (s : St) (k : K) : Run G c91_L2 s k = Run G c91_B2 { s with E := dropE [11, 36, 41, 45, 65, 69, 84, 104, 109, 124] s.E } (.seq c91_L2 k) := w_loop _ _ s k
abbrev S91_3 (x0 x1 x2 x3 x9 x10 : V) (B : List (Nat × List V)) (H : Hp) : St := ⟨[(0, x0), (1, x1), (2, x2), (3, x3), (9, x9), (10, x10)], [], ⟨B, H⟩⟩
@[simp] theorem u91_3 (s : St) (k : K) : Run G c91_L3 s k = Run G c91_B3 { s with E := dropE [8, 11, 12, 36, 41, 45, 65, 69, 84, 104, 109, 124] s.E } (.seq c91_L3 k) := w_loop _ _ s k
abbrev S92_0 (x0 x1 x4 x11 x12 : V) (B : List (Nat × List V)) (H : Hp) : St := ⟨[(0, x0), (1, x1), (4, x4), (11, x11), (12, x12)], [], ⟨B, H⟩⟩
@[simp] theorem u92_0 (s : St) (k : K) : Run G c92_L0 s k = Run G c92_B0 { s with E := dropE [2, 3, 10, 47, 65, 70] s.E } (.seq c92_L0 k) := w_loop _ _ s k
abbrev S92_1 (x0 x1 x4 x11 x12 : V) (B : List (Nat × List V)) (H : Hp) : St := ⟨[(0, x0), (1, x1), (4, x4), (11, x11), (12, x12)], [], ⟨B, H⟩⟩
@[simp] theorem u92_1 (s : St) (k : K) : Run G c92_L1 s k = Run G c92_B1 { s with E := dropE [47, 65] s.E } (.seq c92_L1 k) := w_loop _ _ s k
abbrev S92_2 (x0 x1 x4 x11 x12 : V) (B : List (Nat × List V)) (H : Hp) : St := ⟨[(0, x0), (1, x1), (4, x4), (11, x11), (12, x12)], [], ⟨B, H⟩⟩
@[simp] theorem u92_2 (s : St) (k : K) : Run G c92_L2 s k = Run G c92_B2 { s with E := dropE [2, 3, 10, 47, 65, 70] s.E } (.seq c92_L2 k) := w_loop _ _ s k
abbrev S93_0 (x0 x1 x4 x12 x13 : V) (B : List (Nat × List V)) (H : Hp) : St := ⟨[(0, x0), (1, x1), (4, x4), (12, x12), (13, x13)], [], ⟨B, H⟩⟩
@[simp] theorem u93_0 (s : St) (k : K) : Run G c93_L0 s k = Run G c93_B0 { s with E := dropE [2, 3, 10, 11, 47] s.E } (.seq c93_L0 k) := w_loop _ _ s k
abbrev S93_1 (x0 x1 x4 x12 x13 : V) (B : List (Nat × List V)) (H : Hp) : St := ⟨[(0, x0), (1, x1), (4, x4), (12, x12), (13, x13)], [], ⟨B, H⟩⟩
@[simp] theorem u93_1 (s : St) (k : K) : Run G c93_L1 s k = Run G c93_B1 { s with E := dropE [47, 66] s.E } (.seq c93_L1 k) := w_loop _ _ s k
abbrev S93_2 (x0 x1 x4 x12 x13 : V) (B : List (Nat × List V)) (H : Hp) : St := ⟨[(0, x0), (1, x1), (4, x4), (12, x12), (13, x13)], [], ⟨B, H⟩⟩
@[simp] theorem u93_2 (s : St) (k : K) : Run G c93_L2 s k = Run G c93_B2 { s with E := dropE [66, 71, 120, 139, 144] s.E } (.seq c93_L2 k) := w_loop _ _ s k
abbrev S93_3 (x0 x1 x4 x12 x13 : V) (B : List (Nat × List V)) (H : Hp) : St := ⟨[(0, x0), (1, x1), (4, x4), (12, x12), (13, x13)], [], ⟨B, H⟩⟩
@[simp] theorem u93_3 (s : St) (k : K) : Run G c93_L3 s k = Run G c93_B3 { s with E := dropE [120, 139] s.E } (.seq c93_L3 k) := w_loop _ _ s k
abbrev S93_4 (x0 x1 x4 x12 x13 : V) (B : List (Nat × List V)) (H : Hp) : St := ⟨[(0, x0), (1, x1), (4, x4), (12, x12), (13, x13)], [], ⟨B, H⟩⟩
@[simp] theorem u93_4 (s : St) (k : K) : Run G c93_L4 s k = Run G c93_B4 { s with E := dropE [66, 71, 120, 139, 144] s.E } (.seq c93_L4 k) := w_loop _ _ s k
abbrev S97_0 (x0 x2 x3 x4 x10 : V) (B : List (Nat × List V)) (H : Hp) : St := ⟨[(0, x0), (2, x2), (3, x3), (4, x4), (10, x10)], [], ⟨B, H⟩⟩
@[simp] theorem u97_0 (s : St) (k : K) : Run G c97_L0 s k = Run G c97_B0 { s with E := dropE [1, 11, 18, 40, 58] s.E } (.seq c97_L0 k) := w_loop _ _ s k
end Go.Mx.Tryz
