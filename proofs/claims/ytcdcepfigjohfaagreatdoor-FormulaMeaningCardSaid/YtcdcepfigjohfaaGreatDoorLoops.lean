/- The loops of this seat, one round at a time. -/
import Derived.Test.YtcdcepfigjohfaaGreatDoorSeat
namespace Go.Mx.Tryz
abbrev S4_0 (x1 x3 x7 x8 x9 x49 x50 : V) (B : List (Nat × List V)) (H : Hp) : St := ⟨[(1, x1), (3, x3), (7, x7), (8, x8), (9, x9), (49, x49), (50, x50)], [], ⟨B, H⟩⟩
@[simp] theorem u4_0 (s : St) (k : K) : Run G c4_L0 s k = Run G c4_B0 { s with E := dropE [0, 2, 4, 5, 6, 10, 15, 35, 37, 51] s.E } (.seq c4_L0 k) := w_loop _ _ s k
abbrev S9_0 (x1 x10 x11 : V) (B : List (Nat × List V)) (H : Hp) : St := ⟨[(1, x1), (10, x10), (11, x11)], [], ⟨B, H⟩⟩
@[simp] theorem u9_0 (s : St) (k : K) : Run G c9_L0 s k = Run G c9_B0 { s with E := dropE [0, 2, 3, 7, 12, 20] s.E } (.seq c9_L0 k) := w_loop _ _ s k
abbrev S11_0 (x3 x19 x20 x21 : V) (B : List (Nat × List V)) (H : Hp) : St := ⟨[(3, x3), (19, x19), (20, x20), (21, x21)], [], ⟨B, H⟩⟩
@[simp] theorem u11_0 (s : St) (k : K) : Run G c11_L0 s k = Run G c11_B0 { s with E := dropE [0, 1, 2, 4, 5, 7, 17, 22, 28] s.E } (.seq c11_L0 k) := w_loop _ _ s k
abbrev S13_0 (x1 x20 x21 x22 : V) (B : List (Nat × List V)) (H : Hp) : St := ⟨[(1, x1), (20, x20), (21, x21), (22, x22)], [], ⟨B, H⟩⟩
@[simp] theorem u13_0 (s : St) (k : K) : Run G c13_L0 s k = Run G c13_B0 { s with E := dropE [0, 2, 4, 18, 23, 30] s.E } (.seq c13_L0 k) := w_loop _ _ s k
abbrev S14_0 (x1 x3 x4 : V) (B : List (Nat × List V)) (H : Hp) : St := ⟨[(1, x1), (3, x3), (4, x4)], [], ⟨B, H⟩⟩
@[simp] theorem u14_0 (s : St) (k : K) : Run G c14_L0 s k = Run G c14_B0 { s with E := dropE [23, 33, 47] s.E } (.seq c14_L0 k) := w_loop _ _ s k
abbrev S14_1 (x1 x3 : V) (B : List (Nat × List V)) (H : Hp) : St := ⟨[(1, x1), (3, x3)], [], ⟨B, H⟩⟩
@[simp] theorem u14_1 (s : St) (k : K) : Run G c14_L1 s k = Run G c14_B1 { s with E := dropE [0, 2, 4, 18, 33] s.E } (.seq c14_L1 k) := w_loop _ _ s k
abbrev S15_0 (x2 x4 x7 x8 x18 x19 x20 : V) (B : List (Nat × List V)) (H : Hp) : St := ⟨[(2, x2), (4, x4), (7, x7), (8, x8), (18, x18), (19, x19), (20, x20)], [], ⟨B, H⟩⟩
@[simp] theorem u15_0 (s : St) (k : K) : Run G c15_L0 s k = Run G c15_B0 { s with E := dropE [6, 21, 33, 46] s.E } (.seq c15_L0 k) := w_loop _ _ s k
abbrev S15_1 (x2 x4 x18 x19 x20 : V) (B : List (Nat × List V)) (H : Hp) : St := ⟨[(2, x2), (4, x4), (18, x18), (19, x19), (20, x20)], [], ⟨B, H⟩⟩
@[simp] theorem u15_1 (s : St) (k : K) : Run G c15_L1 s k = Run G c15_B1 { s with E := dropE [0, 1, 3, 7, 8, 12, 33, 46] s.E } (.seq c15_L1 k) := w_loop _ _ s k
abbrev S16_0 (x1 x2 x4 x5 x6 x7 x8 : V) (B : List (Nat × List V)) (H : Hp) : St := ⟨[(1, x1), (2, x2), (4, x4), (5, x5), (6, x6), (7, x7), (8, x8)], [], ⟨B, H⟩⟩
@[simp] theorem u16_0 (s : St) (k : K) : Run G c16_L0 s k = Run G c16_B0 { s with E := dropE [20, 30, 45] s.E } (.seq c16_L0 k) := w_loop _ _ s k
abbrev S16_1 (x1 x2 x4 x5 : V) (B : List (Nat × List V)) (H : Hp) : St := ⟨[(1, x1), (2, x2), (4, x4), (5, x5)], [], ⟨B, H⟩⟩
@[simp] theorem u16_1 (s : St) (k : K) : Run G c16_L1 s k = Run G c16_B1 { s with E := dropE [0, 3, 6, 7, 8, 11, 20, 30, 45, 70] s.E } (.seq c16_L1 k) := w_loop _ _ s k
abbrev S17_0 (x2 x3 x5 : V) (B : List (Nat × List V)) (H : Hp) : St := ⟨[(2, x2), (3, x3), (5, x5)], [], ⟨B, H⟩⟩
@[simp] theorem u17_0 (s : St) (k : K) : Run G c17_L0 s k = Run G c17_B0 { s with E := dropE [0, 1, 4, 19, 24, 38] s.E } (.seq c17_L0 k) := w_loop _ _ s k
abbrev S18_0 (x4 x6 x8 x11 x37 x38 x39 x46 x47 x48 : V) (B : List (Nat × List V)) (H : Hp) : St := ⟨[(4, x4), (6, x6), (8, x8), (11, x11), (37, x37), (38, x38), (39, x39), (46, x46), (47, x47), (48, x48)], [], ⟨B, H⟩⟩
@[simp] theorem u18_0 (s : St) (k : K) : Run G c18_L0 s k = Run G c18_B0 { s with E := dropE [10, 13, 40, 45, 49, 56] s.E } (.seq c18_L0 k) := w_loop _ _ s k
abbrev S18_1 (x4 x6 x8 x37 x38 x39 : V) (B : List (Nat × List V)) (H : Hp) : St := ⟨[(4, x4), (6, x6), (8, x8), (37, x37), (38, x38), (39, x39)], [], ⟨B, H⟩⟩
@[simp] theorem u18_1 (s : St) (k : K) : Run G c18_L1 s k = Run G c18_B1 { s with E := dropE [0, 1, 2, 5, 7, 10, 11, 23, 31, 40, 45, 46, 47, 48, 49] s.E } (.seq c18_L1 k) := w_loop _ _ s k
abbrev S19_0 (x1 x2 x4 x6 x7 : V) (B : List (Nat × List V)) (H : Hp) : St := ⟨[(1, x1), (2, x2), (4, x4), (6, x6), (7, x7)], [], ⟨B, H⟩⟩
@[simp] theorem u19_0 (s : St) (k : K) : Run G c19_L0 s k = Run G c19_B0 { s with E := dropE [0, 5, 8, 9, 22, 31, 45] s.E } (.seq c19_L0 k) := w_loop _ _ s k
abbrev S20_0 (x2 x7 x34 x35 x36 : V) (B : List (Nat × List V)) (H : Hp) : St := ⟨[(2, x2), (7, x7), (34, x34), (35, x35), (36, x36)], [], ⟨B, H⟩⟩
@[simp] theorem u20_0 (s : St) (k : K) : Run G c20_L0 s k = Run G c20_B0 { s with E := dropE [0, 1, 4, 5, 6, 9, 30, 37, 42] s.E } (.seq c20_L0 k) := w_loop _ _ s k
abbrev S20_1 (x7 x10 x11 x48 x49 x50 x67 x68 x69 : V) (B : List (Nat × List V)) (H : Hp) : St := ⟨[(7, x7), (10, x10), (11, x11), (48, x48), (49, x49), (50, x50), (67, x67), (68, x68), (69, x69)], [], ⟨B, H⟩⟩
@[simp] theorem u20_1 (s : St) (k : K) : Run G c20_L1 s k = Run G c20_B1 { s with E := dropE [12, 14, 51, 70] s.E } (.seq c20_L1 k) := w_loop _ _ s k
abbrev S20_2 (x7 x10 x48 x49 x50 : V) (B : List (Nat × List V)) (H : Hp) : St := ⟨[(7, x7), (10, x10), (48, x48), (49, x49), (50, x50)], [], ⟨B, H⟩⟩
@[simp] theorem u20_2 (s : St) (k : K) : Run G c20_L2 s k = Run G c20_B2 { s with E := dropE [2, 11, 34, 35, 36, 37, 67, 68, 69, 70] s.E } (.seq c20_L2 k) := w_loop _ _ s k
abbrev S20_3 (x7 x10 x86 x87 x88 : V) (B : List (Nat × List V)) (H : Hp) : St := ⟨[(7, x7), (10, x10), (86, x86), (87, x87), (88, x88)], [], ⟨B, H⟩⟩
@[simp] theorem u20_3 (s : St) (k : K) : Run G c20_L3 s k = Run G c20_B3 { s with E := dropE [16, 48, 49, 50, 51, 89, 94] s.E } (.seq c20_L3 k) := w_loop _ _ s k
abbrev S20_4 (x7 x10 x17 x111 x112 x113 : V) (B : List (Nat × List V)) (H : Hp) : St := ⟨[(7, x7), (10, x10), (17, x17), (111, x111), (112, x112), (113, x113)], [], ⟨B, H⟩⟩
@[simp] theorem u20_4 (s : St) (k : K) : Run G c20_L4 s k = Run G c20_B4 { s with E := dropE [19, 100, 114, 123] s.E } (.seq c20_L4 k) := w_loop _ _ s k
abbrev S20_5 (x7 x10 x17 : V) (B : List (Nat × List V)) (H : Hp) : St := ⟨[(7, x7), (10, x10), (17, x17)], [], ⟨B, H⟩⟩
@[simp] theorem u20_5 (s : St) (k : K) : Run G c20_L5 s k = Run G c20_B5 { s with E := dropE [86, 87, 88, 89, 111, 112, 113, 114] s.E } (.seq c20_L5 k) := w_loop _ _ s k
abbrev S21_0 (x1 x2 x7 x8 x9 : V) (B : List (Nat × List V)) (H : Hp) : St := ⟨[(1, x1), (2, x2), (7, x7), (8, x8), (9, x9)], [], ⟨B, H⟩⟩
@[simp] theorem u21_0 (s : St) (k : K) : Run G c21_L0 s k = Run G c21_B0 { s with E := dropE [10, 11, 24, 29, 50, 57] s.E } (.seq c21_L0 k) := w_loop _ _ s k
abbrev S21_1 (x1 x2 x7 x8 : V) (B : List (Nat × List V)) (H : Hp) : St := ⟨[(1, x1), (2, x2), (7, x7), (8, x8)], [], ⟨B, H⟩⟩
@[simp] theorem u21_1 (s : St) (k : K) : Run G c21_L1 s k = Run G c21_B1 { s with E := dropE [0, 4, 5, 6, 9, 20, 29] s.E } (.seq c21_L1 k) := w_loop _ _ s k
abbrev S22_0 (x0 x1 x5 : V) (B : List (Nat × List V)) (H : Hp) : St := ⟨[(0, x0), (1, x1), (5, x5)], [], ⟨B, H⟩⟩
@[simp] theorem u22_0 (s : St) (k : K) : Run G c22_L0 s k = Run G c22_B0 { s with E := dropE [4, 10, 14, 25] s.E } (.seq c22_L0 k) := w_loop _ _ s k
abbrev S23_0 (x4 x25 x26 x27 x31 x32 x33 : V) (B : List (Nat × List V)) (H : Hp) : St := ⟨[(4, x4), (25, x25), (26, x26), (27, x27), (31, x31), (32, x32), (33, x33)], [], ⟨B, H⟩⟩
@[simp] theorem u23_0 (s : St) (k : K) : Run G c23_L0 s k = Run G c23_B0 { s with E := dropE [6, 8, 28, 34] s.E } (.seq c23_L0 k) := w_loop _ _ s k
abbrev S23_1 (x4 x25 x26 x27 : V) (B : List (Nat × List V)) (H : Hp) : St := ⟨[(4, x4), (25, x25), (26, x26), (27, x27)], [], ⟨B, H⟩⟩
@[simp] theorem u23_1 (s : St) (k : K) : Run G c23_L1 s k = Run G c23_B1 { s with E := dropE [0, 1, 2, 3, 11, 31, 32, 33, 34, 47] s.E } (.seq c23_L1 k) := w_loop _ _ s k
abbrev S25_0 (x2 x5 x39 x40 x41 : V) (B : List (Nat × List V)) (H : Hp) : St := ⟨[(2, x2), (5, x5), (39, x39), (40, x40), (41, x41)], [], ⟨B, H⟩⟩
@[simp] theorem u25_0 (s : St) (k : K) : Run G c25_L0 s k = Run G c25_B0 { s with E := dropE [0, 3, 4, 7, 8, 9, 18, 36, 42, 51] s.E } (.seq c25_L0 k) := w_loop _ _ s k
abbrev S25_1 (x2 x5 x10 x11 x78 x79 x80 : V) (B : List (Nat × List V)) (H : Hp) : St := ⟨[(2, x2), (5, x5), (10, x10), (11, x11), (78, x78), (79, x79), (80, x80)], [], ⟨B, H⟩⟩
@[simp] theorem u25_1 (s : St) (k : K) : Run G c25_L1 s k = Run G c25_B1 { s with E := dropE [13, 39, 40, 41, 42, 66, 74, 81, 92] s.E } (.seq c25_L1 k) := w_loop _ _ s k
abbrev S25_2 (x2 x5 x14 x100 x101 : V) (B : List (Nat × List V)) (H : Hp) : St := ⟨[(2, x2), (5, x5), (14, x14), (100, x100), (101, x101)], [], ⟨B, H⟩⟩
@[simp] theorem u25_2 (s : St) (k : K) : Run G c25_L2 s k = Run G c25_B2 { s with E := dropE [10, 11, 15, 78, 79, 80, 81, 96, 102, 106] s.E } (.seq c25_L2 k) := w_loop _ _ s k
abbrev S27_0 (x0 x1 x8 x9 : V) (B : List (Nat × List V)) (H : Hp) : St := ⟨[(0, x0), (1, x1), (8, x8), (9, x9)], [], ⟨B, H⟩⟩
@[simp] theorem u27_0 (s : St) (k : K) : Run G c27_L0 s k = Run G c27_B0 { s with E := dropE [4, 5, 6, 10, 42] s.E } (.seq c27_L0 k) := w_loop _ _ s k
abbrev S30_0 (x0 x7 x8 x9 : V) (B : List (Nat × List V)) (H : Hp) : St := ⟨[(0, x0), (7, x7), (8, x8), (9, x9)], [], ⟨B, H⟩⟩
@[simp] theorem u30_0 (s : St) (k : K) : Run G c30_L0 s k = Run G c30_B0 { s with E := dropE [1, 4, 6, 10, 25] s.E } (.seq c30_L0 k) := w_loop _ _ s k
abbrev S35_0 (x0 x3 x4 x5 : V) (B : List (Nat × List V)) (H : Hp) : St := ⟨[(0, x0), (3, x3), (4, x4), (5, x5)], [], ⟨B, H⟩⟩
@[simp] theorem u35_0 (s : St) (k : K) : Run G c35_L0 s k = Run G c35_B0 { s with E := dropE [13, 25, 32, 44] s.E } (.seq c35_L0 k) := w_loop _ _ s k
abbrev S35_1 (x0 x3 : V) (B : List (Nat × List V)) (H : Hp) : St := ⟨[(0, x0), (3, x3)], [], ⟨B, H⟩⟩
@[simp] theorem u35_1 (s : St) (k : K) : Run G c35_L1 s k = Run G c35_B1 { s with E := dropE [2, 8, 13, 25] s.E } (.seq c35_L1 k) := w_loop _ _ s k
abbrev S37_0 (x0 x1 x2 x11 x12 x13 : V) (B : List (Nat × List V)) (H : Hp) : St := ⟨[(0, x0), (1, x1), (2, x2), (11, x11), (12, x12), (13, x13)], [], ⟨B, H⟩⟩
@[simp] theorem u37_0 (s : St) (k : K) : Run G c37_L0 s k = Run G c37_B0 { s with E := dropE [6, 7, 8, 9, 10, 14, 21, 31] s.E } (.seq c37_L0 k) := w_loop _ _ s k
abbrev S39_0 (x0 x1 x5 x6 x7 : V) (B : List (Nat × List V)) (H : Hp) : St := ⟨[(0, x0), (1, x1), (5, x5), (6, x6), (7, x7)], [], ⟨B, H⟩⟩
@[simp] theorem u39_0 (s : St) (k : K) : Run G c39_L0 s k = Run G c39_B0 { s with E := dropE [15, 28, 35, 49] s.E } (.seq c39_L0 k) := w_loop _ _ s k
abbrev S39_1 (x0 x1 x5 : V) (B : List (Nat × List V)) (H : Hp) : St := ⟨[(0, x0), (1, x1), (5, x5)], [], ⟨B, H⟩⟩
@[simp] theorem u39_1 (s : St) (k : K) : Run G c39_L1 s k = Run G c39_B1 { s with E := dropE [4, 10, 15, 28] s.E } (.seq c39_L1 k) := w_loop _ _ s k
abbrev S41_0 (x0 x3 x4 x5 x6 : V) (B : List (Nat × List V)) (H : Hp) : St := ⟨[(0, x0), (3, x3), (4, x4), (5, x5), (6, x6)], [], ⟨B, H⟩⟩
@[simp] theorem u41_0 (s : St) (k : K) : Run G c41_L0 s k = Run G c41_B0 { s with E := dropE [10, 18, 33] s.E } (.seq c41_L0 k) := w_loop _ _ s k
abbrev S41_1 (x0 x3 x4 : V) (B : List (Nat × List V)) (H : Hp) : St := ⟨[(0, x0), (3, x3), (4, x4)], [], ⟨B, H⟩⟩
@[simp] theorem u41_1 (s : St) (k : K) : Run G c41_L1 s k = Run G c41_B1 { s with E := dropE [2, 5, 6, 10, 18, 33] s.E } (.seq c41_L1 k) := w_loop _ _ s k
abbrev S42_0 (x0 x3 : V) (B : List (Nat × List V)) (H : Hp) : St := ⟨[(0, x0), (3, x3)], [], ⟨B, H⟩⟩
@[simp] theorem u42_0 (s : St) (k : K) : Run G c42_L0 s k = Run G c42_B0 { s with E := dropE [2, 7, 16] s.E } (.seq c42_L0 k) := w_loop _ _ s k
abbrev S43_0 (x0 x1 x5 : V) (B : List (Nat × List V)) (H : Hp) : St := ⟨[(0, x0), (1, x1), (5, x5)], [], ⟨B, H⟩⟩
@[simp] theorem u43_0 (s : St) (k : K) : Run G c43_L0 s k = Run G c43_B0 { s with E := dropE [4, 15, 26, 35] s.E } (.seq c43_L0 k) := w_loop _ _ s k
abbrev S44_0 (x4 x8 x9 x10 : V) (B : List (Nat × List V)) (H : Hp) : St := ⟨[(4, x4), (8, x8), (9, x9), (10, x10)], [], ⟨B, H⟩⟩
@[simp] theorem u44_0 (s : St) (k : K) : Run G c44_L0 s k = Run G c44_B0 { s with E := dropE [0, 2, 3, 6, 11, 19] s.E } (.seq c44_L0 k) := w_loop _ _ s k
abbrev S46_0 (x1 x2 x5 : V) (B : List (Nat × List V)) (H : Hp) : St := ⟨[(1, x1), (2, x2), (5, x5)], [], ⟨B, H⟩⟩
@[simp] theorem u46_0 (s : St) (k : K) : Run G c46_L0 s k = Run G c46_B0 { s with E := dropE [0, 4, 9, 19] s.E } (.seq c46_L0 k) := w_loop _ _ s k
abbrev S47_0 (x0 x1 x6 x7 : V) (B : List (Nat × List V)) (H : Hp) : St := ⟨[(0, x0), (1, x1), (6, x6), (7, x7)], [], ⟨B, H⟩⟩
@[simp] theorem u47_0 (s : St) (k : K) : Run G c47_L0 s k = Run G c47_B0 { s with E := dropE [4, 5, 12, 20, 28] s.E } (.seq c47_L0 k) := w_loop _ _ s k
abbrev S50_0 (x0 x5 x6 x9 x10 x11 : V) (B : List (Nat × List V)) (H : Hp) : St := ⟨[(0, x0), (5, x5), (6, x6), (9, x9), (10, x10), (11, x11)], [], ⟨B, H⟩⟩
@[simp] theorem u50_0 (s : St) (k : K) : Run G c50_L0 s k = Run G c50_B0 { s with E := dropE [1, 4, 8, 12, 15, 22] s.E } (.seq c50_L0 k) := w_loop _ _ s k
abbrev S55_0 (x0 x4 x12 x13 x14 : V) (B : List (Nat × List V)) (H : Hp) : St := ⟨[(0, x0), (4, x4), (12, x12), (13, x13), (14, x14)], [], ⟨B, H⟩⟩
@[simp] theorem u55_0 (s : St) (k : K) : Run G c55_L0 s k = Run G c55_B0 { s with E := dropE [2, 3, 6, 15, 23] s.E } (.seq c55_L0 k) := w_loop _ _ s k
abbrev S56_0 (x0 x1 x7 x8 : V) (B : List (Nat × List V)) (H : Hp) : St := ⟨[(0, x0), (1, x1), (7, x7), (8, x8)], [], ⟨B, H⟩⟩
@[simp] theorem u56_0 (s : St) (k : K) : Run G c56_L0 s k = Run G c56_B0 { s with E := dropE [4, 5, 9, 16] s.E } (.seq c56_L0 k) := w_loop _ _ s k
abbrev S59_0 (x0 x1 x7 x8 : V) (B : List (Nat × List V)) (H : Hp) : St := ⟨[(0, x0), (1, x1), (7, x7), (8, x8)], [], ⟨B, H⟩⟩
@[simp] theorem u59_0 (s : St) (k : K) : Run G c59_L0 s k = Run G c59_B0 { s with E := dropE [4, 5, 9, 16] s.E } (.seq c59_L0 k) := w_loop _ _ s k
abbrev S62_0 (x3 x6 x7 x8 : V) (B : List (Nat × List V)) (H : Hp) : St := ⟨[(3, x3), (6, x6), (7, x7), (8, x8)], [], ⟨B, H⟩⟩
@[simp] theorem u62_0 (s : St) (k : K) : Run G c62_L0 s k = Run G c62_B0 { s with E := dropE [0, 2, 5, 9, 14] s.E } (.seq c62_L0 k) := w_loop _ _ s k
abbrev S65_0 (x0 x1 x5 : V) (B : List (Nat × List V)) (H : Hp) : St := ⟨[(0, x0), (1, x1), (5, x5)], [], ⟨B, H⟩⟩
@[simp] theorem u65_0 (s : St) (k : K) : Run G c65_L0 s k = Run G c65_B0 { s with E := dropE [4, 9, 17] s.E } (.seq c65_L0 k) := w_loop _ _ s k
abbrev S107_0 (x5 x6 x47 x48 x49 : V) (B : List (Nat × List V)) (H : Hp) : St := ⟨[(5, x5), (6, x6), (47, x47), (48, x48), (49, x49)], [], ⟨B, H⟩⟩
@[simp] theorem u107_0 (s : St) (k : K) : Run G c107_L0 s k = Run G c107_B0 { s with E := dropE [0, 2, 3, 4, 8, 30, 39, 44, 50, 56] s.E } (.seq c107_L0 k) := w_loop _ _ s k
abbrev S122_0 (x0 x1 x4 : V) (B : List (Nat × List V)) (H : Hp) : St := ⟨[(0, x0), (1, x1), (4, x4)], [], ⟨B, H⟩⟩
@[simp] theorem u122_0 (s : St) (k : K) : Run G c122_L0 s k = Run G c122_B0 { s with E := dropE [5, 6, 7, 8, 9, 10, 11, 20] s.E } (.seq c122_L0 k) := w_loop _ _ s k
abbrev S124_0 (x0 x2 : V) (B : List (Nat × List V)) (H : Hp) : St := ⟨[(0, x0), (2, x2)], [], ⟨B, H⟩⟩
@[simp] theorem u124_0 (s : St) (k : K) : Run G c124_L0 s k = Run G c124_B0 { s with E := dropE [1, 3, 6, 11, 14, 25] s.E } (.seq c124_L0 k) := w_loop _ _ s k
abbrev S124_1 (x0 x1 x2 x3 : V) (B : List (Nat × List V)) (H : Hp) : St := ⟨[(0, x0), (1, x1), (2, x2), (3, x3)], [], ⟨B, H⟩⟩
@[simp] theorem u124_1 (s : St) (k : K) : Run G c124_L1 s k = Run G c124_B1 { s with E := dropE [7, 8, 11, 33, 42] s.E } (.seq c124_L1 k) := w_loop _ _ s k
abbrev S140_0 (x0 x1 x5 x6 x7 x8 x9 x10 : V) (B : List (Nat × List V)) (H : Hp) : St := ⟨[(0, x0), (1, x1), (5, x5), (6, x6), (7, x7), (8, x8), (9, x9), (10, x10)], [], ⟨B, H⟩⟩
@[simp] theorem u140_0 (s : St) (k : K) : Run G c140_L0 s k = Run G c140_B0 { s with E := dropE [4, 11, 16, 24, 31, 36, 59, 64, 73, 93, 107, 132] s.E } (.seq c140_L0 k) := w_loop _ _ s k
end Go.Mx.Tryz
