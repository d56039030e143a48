/- The loops of this seat, one round at a time. -/
import Derived.Test.YtjkepihkilnjiaaDoorSeat
namespace Go.Mx.Tryd
abbrev S7_0 (x1 x7 x9 : V) (B : List (Nat × List V)) (H : Hp) : St := ⟨[(1, x1), (7, x7), (9, x9)], [], ⟨B, H⟩⟩
@[simp] theorem u7_0 (s : St) (k : K) : Run G c7_L0 s k = Run G c7_B0 { s with E := dropE [0, 2, 3, 6, 8, 13, 25, 42, 46, 81] s.E } (.seq c7_L0 k) := w_loop _ _ s k
abbrev S9_0 (x2 x6 x7 x8 x38 x39 x40 : V) (B : List (Nat × List V)) (H : Hp) : St := ⟨[(2, x2), (6, x6), (7, x7), (8, x8), (38, x38), (39, x39), (40, x40)], [], ⟨B, H⟩⟩
@[simp] theorem u9_0 (s : St) (k : K) : Run G c9_L0 s k = Run G c9_B0 { s with E := dropE [0, 1, 10, 23, 41] s.E } (.seq c9_L0 k) := w_loop _ _ s k
abbrev S9_1 (x6 x7 x8 x53 x54 x55 : V) (B : List (Nat × List V)) (H : Hp) : St := ⟨[(6, x6), (7, x7), (8, x8), (53, x53), (54, x54), (55, x55)], [], ⟨B, H⟩⟩
@[simp] theorem u9_1 (s : St) (k : K) : Run G c9_L1 s k = Run G c9_B1 { s with E := dropE [2, 12, 13, 14, 15, 38, 39, 40, 41, 56, 70, 77] s.E } (.seq c9_L1 k) := w_loop _ _ s k
abbrev S11_0 (x6 x26 x27 x28 : V) (B : List (Nat × List V)) (H : Hp) : St := ⟨[(6, x6), (26, x26), (27, x27), (28, x28)], [], ⟨B, H⟩⟩
@[simp] theorem u11_0 (s : St) (k : K) : Run G c11_L0 s k = Run G c11_B0 { s with E := dropE [0, 1, 4, 5, 8, 19, 23, 29] s.E } (.seq c11_L0 k) := w_loop _ _ s k
abbrev S13_0 (x3 x4 x17 x18 x19 : V) (B : List (Nat × List V)) (H : Hp) : St := ⟨[(3, x3), (4, x4), (17, x17), (18, x18), (19, x19)], [], ⟨B, H⟩⟩
@[simp] theorem u13_0 (s : St) (k : K) : Run G c13_L0 s k = Run G c13_B0 { s with E := dropE [0, 1, 5, 6, 8, 16, 20, 29] s.E } (.seq c13_L0 k) := w_loop _ _ s k
abbrev S15_0 (x0 x1 x12 x13 : V) (B : List (Nat × List V)) (H : Hp) : St := ⟨[(0, x0), (1, x1), (12, x12), (13, x13)], [], ⟨B, H⟩⟩
@[simp] theorem u15_0 (s : St) (k : K) : Run G c15_L0 s k = Run G c15_B0 { s with E := dropE [4, 5, 10, 14, 24] s.E } (.seq c15_L0 k) := w_loop _ _ s k
abbrev S16_0 (x0 x1 x7 x8 : V) (B : List (Nat × List V)) (H : Hp) : St := ⟨[(0, x0), (1, x1), (7, x7), (8, x8)], [], ⟨B, H⟩⟩
@[simp] theorem u16_0 (s : St) (k : K) : Run G c16_L0 s k = Run G c16_B0 { s with E := dropE [4, 5, 6, 13, 15, 21] s.E } (.seq c16_L0 k) := w_loop _ _ s k
abbrev S18_0 (x3 x8 x9 x10 x36 x37 : V) (B : List (Nat × List V)) (H : Hp) : St := ⟨[(3, x3), (8, x8), (9, x9), (10, x10), (36, x36), (37, x37)], [], ⟨B, H⟩⟩
@[simp] theorem u18_0 (s : St) (k : K) : Run G c18_L0 s k = Run G c18_B0 { s with E := dropE [5, 6, 7, 11, 38, 42] s.E } (.seq c18_L0 k) := w_loop _ _ s k
abbrev S18_1 (x3 x8 x9 x10 : V) (B : List (Nat × List V)) (H : Hp) : St := ⟨[(3, x3), (8, x8), (9, x9), (10, x10)], [], ⟨B, H⟩⟩
@[simp] theorem u18_1 (s : St) (k : K) : Run G c18_L1 s k = Run G c18_B1 { s with E := dropE [0, 2, 36, 37, 38] s.E } (.seq c18_L1 k) := w_loop _ _ s k
abbrev S21_0 (x8 x10 x23 x24 : V) (B : List (Nat × List V)) (H : Hp) : St := ⟨[(8, x8), (10, x10), (23, x23), (24, x24)], [], ⟨B, H⟩⟩
@[simp] theorem u21_0 (s : St) (k : K) : Run G c21_L0 s k = Run G c21_B0 { s with E := dropE [0, 1, 2, 3, 6, 7, 9, 11, 20, 25] s.E } (.seq c21_L0 k) := w_loop _ _ s k
abbrev S22_0 (x0 x3 : V) (B : List (Nat × List V)) (H : Hp) : St := ⟨[(0, x0), (3, x3)], [], ⟨B, H⟩⟩
@[simp] theorem u22_0 (s : St) (k : K) : Run G c22_L0 s k = Run G c22_B0 { s with E := dropE [2, 7, 54] s.E } (.seq c22_L0 k) := w_loop _ _ s k
abbrev S23_0 (x0 x1 x6 x8 x9 x10 x11 x12 x13 : V) (B : List (Nat × List V)) (H : Hp) : St := ⟨[(0, x0), (1, x1), (6, x6), (8, x8), (9, x9), (10, x10), (11, x11), (12, x12), (13, x13)], [], ⟨B, H⟩⟩
@[simp] theorem u23_0 (s : St) (k : K) : Run G c23_L0 s k = Run G c23_B0 { s with E := dropE [48, 54] s.E } (.seq c23_L0 k) := w_loop _ _ s k
abbrev S23_1 (x0 x1 x6 x8 x9 x10 x11 : V) (B : List (Nat × List V)) (H : Hp) : St := ⟨[(0, x0), (1, x1), (6, x6), (8, x8), (9, x9), (10, x10), (11, x11)], [], ⟨B, H⟩⟩
@[simp] theorem u23_1 (s : St) (k : K) : Run G c23_L1 s k = Run G c23_B1 { s with E := dropE [2, 7, 12, 13, 35, 54] s.E } (.seq c23_L1 k) := w_loop _ _ s k
abbrev S23_2 (x0 x1 x6 x8 x14 : V) (B : List (Nat × List V)) (H : Hp) : St := ⟨[(0, x0), (1, x1), (6, x6), (8, x8), (14, x14)], [], ⟨B, H⟩⟩
@[simp] theorem u23_2 (s : St) (k : K) : Run G c23_L2 s k = Run G c23_B2 { s with E := dropE [9, 10, 11, 48, 87] s.E } (.seq c23_L2 k) := w_loop _ _ s k
abbrev S24_0 (x0 x1 x12 x13 : V) (B : List (Nat × List V)) (H : Hp) : St := ⟨[(0, x0), (1, x1), (12, x12), (13, x13)], [], ⟨B, H⟩⟩
@[simp] theorem u24_0 (s : St) (k : K) : Run G c24_L0 s k = Run G c24_B0 { s with E := dropE [4, 5, 10, 14, 24] s.E } (.seq c24_L0 k) := w_loop _ _ s k
abbrev S25_0 (x0 x8 x9 x10 : V) (B : List (Nat × List V)) (H : Hp) : St := ⟨[(0, x0), (8, x8), (9, x9), (10, x10)], [], ⟨B, H⟩⟩
@[simp] theorem u25_0 (s : St) (k : K) : Run G c25_L0 s k = Run G c25_B0 { s with E := dropE [2, 3, 4, 7, 11, 42] s.E } (.seq c25_L0 k) := w_loop _ _ s k
abbrev S26_0 (x0 x2 x4 x5 x26 x27 x28 : V) (B : List (Nat × List V)) (H : Hp) : St := ⟨[(0, x0), (2, x2), (4, x4), (5, x5), (26, x26), (27, x27), (28, x28)], [], ⟨B, H⟩⟩
@[simp] theorem u26_0 (s : St) (k : K) : Run G c26_L0 s k = Run G c26_B0 { s with E := dropE [3, 7, 16, 29] s.E } (.seq c26_L0 k) := w_loop _ _ s k
abbrev S29_0 (x0 x3 x6 x7 : V) (B : List (Nat × List V)) (H : Hp) : St := ⟨[(0, x0), (3, x3), (6, x6), (7, x7)], [], ⟨B, H⟩⟩
@[simp] theorem u29_0 (s : St) (k : K) : Run G c29_L0 s k = Run G c29_B0 { s with E := dropE [2, 4, 8] s.E } (.seq c29_L0 k) := w_loop _ _ s k
abbrev S42_0 (x1 x16 x17 : V) (B : List (Nat × List V)) (H : Hp) : St := ⟨[(1, x1), (16, x16), (17, x17)], [], ⟨B, H⟩⟩
@[simp] theorem u42_0 (s : St) (k : K) : Run G c42_L0 s k = Run G c42_B0 { s with E := dropE [0, 2, 3, 13, 18, 27] s.E } (.seq c42_L0 k) := w_loop _ _ s k
abbrev S43_0 (x3 x9 x26 x27 : V) (B : List (Nat × List V)) (H : Hp) : St := ⟨[(3, x3), (9, x9), (26, x26), (27, x27)], [], ⟨B, H⟩⟩
@[simp] theorem u43_0 (s : St) (k : K) : Run G c43_L0 s k = Run G c43_B0 { s with E := dropE [0, 1, 2, 6, 7, 8, 10, 11, 16, 23, 28, 41] s.E } (.seq c43_L0 k) := w_loop _ _ s k
abbrev S46_0 (x0 x3 : V) (B : List (Nat × List V)) (H : Hp) : St := ⟨[(0, x0), (3, x3)], [], ⟨B, H⟩⟩
@[simp] theorem u46_0 (s : St) (k : K) : Run G c46_L0 s k = Run G c46_B0 { s with E := dropE [2, 4, 12, 16, 54] s.E } (.seq c46_L0 k) := w_loop _ _ s k
abbrev S47_0 (x1 x2 x6 x7 x8 : V) (B : List (Nat × List V)) (H : Hp) : St := ⟨[(1, x1), (2, x2), (6, x6), (7, x7), (8, x8)], [], ⟨B, H⟩⟩
@[simp] theorem u47_0 (s : St) (k : K) : Run G c47_L0 s k = Run G c47_B0 { s with E := dropE [0, 13] s.E } (.seq c47_L0 k) := w_loop _ _ s k
abbrev S57_0 (x2 x6 x7 x8 x10 x18 x19 x20 x25 x26 x27 : V) (B : List (Nat × List V)) (H : Hp) : St := ⟨[(2, x2), (6, x6), (7, x7), (8, x8), (10, x10), (18, x18), (19, x19), (20, x20), (25, x25), (26, x26), (27, x27)], [], ⟨B, H⟩⟩
@[simp] theorem u57_0 (s : St) (k : K) : Run G c57_L0 s k = Run G c57_B0 { s with E := dropE [12, 13, 14, 21, 28, 44, 52, 55] s.E } (.seq c57_L0 k) := w_loop _ _ s k
abbrev S57_1 (x2 x6 x7 x8 x18 x19 x20 : V) (B : List (Nat × List V)) (H : Hp) : St := ⟨[(2, x2), (6, x6), (7, x7), (8, x8), (18, x18), (19, x19), (20, x20)], [], ⟨B, H⟩⟩
@[simp] theorem u57_1 (s : St) (k : K) : Run G c57_L1 s k = Run G c57_B1 { s with E := dropE [0, 1, 4, 5, 10, 25, 26, 27, 28] s.E } (.seq c57_L1 k) := w_loop _ _ s k
abbrev S63_0 (x3 x7 x8 x9 : V) (B : List (Nat × List V)) (H : Hp) : St := ⟨[(3, x3), (7, x7), (8, x8), (9, x9)], [], ⟨B, H⟩⟩
@[simp] theorem u63_0 (s : St) (k : K) : Run G c63_L0 s k = Run G c63_B0 { s with E := dropE [0, 2, 5, 10] s.E } (.seq c63_L0 k) := w_loop _ _ s k
abbrev S64_0 (x0 x4 x5 x7 x15 x16 x17 : V) (B : List (Nat × List V)) (H : Hp) : St := ⟨[(0, x0), (4, x4), (5, x5), (7, x7), (15, x15), (16, x16), (17, x17)], [], ⟨B, H⟩⟩
@[simp] theorem u64_0 (s : St) (k : K) : Run G c64_L0 s k = Run G c64_B0 { s with E := dropE [1, 2, 6, 9, 18] s.E } (.seq c64_L0 k) := w_loop _ _ s k
abbrev S66_0 (x4 x8 x9 x10 : V) (B : List (Nat × List V)) (H : Hp) : St := ⟨[(4, x4), (8, x8), (9, x9), (10, x10)], [], ⟨B, H⟩⟩
@[simp] theorem u66_0 (s : St) (k : K) : Run G c66_L0 s k = Run G c66_B0 { s with E := dropE [0, 2, 3, 6, 11, 14, 19, 28] s.E } (.seq c66_L0 k) := w_loop _ _ s k
abbrev S66_1 (x4 x7 : V) (B : List (Nat × List V)) (H : Hp) : St := ⟨[(4, x4), (7, x7)], [], ⟨B, H⟩⟩
@[simp] theorem u66_1 (s : St) (k : K) : Run G c66_L1 s k = Run G c66_B1 { s with E := dropE [8, 9, 10, 11, 42, 56] s.E } (.seq c66_L1 k) := w_loop _ _ s k
abbrev S67_0 (x3 x6 x7 x8 : V) (B : List (Nat × List V)) (H : Hp) : St := ⟨[(3, x3), (6, x6), (7, x7), (8, x8)], [], ⟨B, H⟩⟩
@[simp] theorem u67_0 (s : St) (k : K) : Run G c67_L0 s k = Run G c67_B0 { s with E := dropE [0, 2, 5, 9, 14] s.E } (.seq c67_L0 k) := w_loop _ _ s k
abbrev S71_0 (x0 x1 x4 : V) (B : List (Nat × List V)) (H : Hp) : St := ⟨[(0, x0), (1, x1), (4, x4)], [], ⟨B, H⟩⟩
@[simp] theorem u71_0 (s : St) (k : K) : Run G c71_L0 s k = Run G c71_B0 { s with E := dropE [5, 6, 7, 8, 9, 10, 11, 20] s.E } (.seq c71_L0 k) := w_loop _ _ s k
abbrev S73_0 (x1 x4 x5 x47 x48 x49 x74 x75 x76 : V) (B : List (Nat × List V)) (H : Hp) : St := ⟨[(1, x1), (4, x4), (5, x5), (47, x47), (48, x48), (49, x49), (74, x74), (75, x75), (76, x76)], [], ⟨B, H⟩⟩
@[simp] theorem u73_0 (s : St) (k : K) : Run G c73_L0 s k = Run G c73_B0 { s with E := dropE [7, 50, 72, 77, 114] s.E } (.seq c73_L0 k) := w_loop _ _ s k
abbrev S73_1 (x1 x47 x48 x49 : V) (B : List (Nat × List V)) (H : Hp) : St := ⟨[(1, x1), (47, x47), (48, x48), (49, x49)], [], ⟨B, H⟩⟩
@[simp] theorem u73_1 (s : St) (k : K) : Run G c73_L1 s k = Run G c73_B1 { s with E := dropE [0, 2, 3, 4, 5, 45, 74, 75, 76, 77] s.E } (.seq c73_L1 k) := w_loop _ _ s k
abbrev S74_0 (x2 x5 x12 x13 x14 : V) (B : List (Nat × List V)) (H : Hp) : St := ⟨[(2, x2), (5, x5), (12, x12), (13, x13), (14, x14)], [], ⟨B, H⟩⟩
@[simp] theorem u74_0 (s : St) (k : K) : Run G c74_L0 s k = Run G c74_B0 { s with E := dropE [0, 1, 4, 7, 15] s.E } (.seq c74_L0 k) := w_loop _ _ s k
abbrev S82_0 (x0 x13 x14 x15 : V) (B : List (Nat × List V)) (H : Hp) : St := ⟨[(0, x0), (13, x13), (14, x14), (15, x15)], [], ⟨B, H⟩⟩
@[simp] theorem u82_0 (s : St) (k : K) : Run G c82_L0 s k = Run G c82_B0 { s with E := dropE [2, 3, 4, 12, 16, 51] s.E } (.seq c82_L0 k) := w_loop _ _ s k
abbrev S83_0 (x0 x1 x2 x3 x4 x10 x11 : V) (B : List (Nat × List V)) (H : Hp) : St := ⟨[(0, x0), (1, x1), (2, x2), (3, x3), (4, x4), (10, x10), (11, x11)], [], ⟨B, H⟩⟩
@[simp] theorem u83_0 (s : St) (k : K) : Run G c83_L0 s k = Run G c83_B0 { s with E := dropE [12, 13, 14, 15, 16, 17, 18, 19, 20, 25, 32, 39, 56, 75, 80, 97, 125] s.E } (.seq c83_L0 k) := w_loop _ _ s k
abbrev S87_0 (x0 x1 x2 x3 x8 x9 : V) (B : List (Nat × List V)) (H : Hp) : St := ⟨[(0, x0), (1, x1), (2, x2), (3, x3), (8, x8), (9, x9)], [], ⟨B, H⟩⟩
@[simp] theorem u87_0 (s : St) (k : K) : Run G c87_L0 s k = Run G c87_B0 { s with E := dropE [14, 34] s.E } (.seq c87_L0 k) := w_loop _ _ s k
abbrev S87_1 (x0 x1 x2 x3 x8 : V) (B : List (Nat × List V)) (H : Hp) : St := ⟨[(0, x0), (1, x1), (2, x2), (3, x3), (8, x8)], [], ⟨B, H⟩⟩
@[simp] theorem u87_1 (s : St) (k : K) : Run G c87_L1 s k = Run G c87_B1 { s with E := dropE [9, 34] s.E } (.seq c87_L1 k) := w_loop _ _ s k
abbrev S88_0 (x0 x3 x8 x9 x10 x11 : V) (B : List (Nat × List V)) (H : Hp) : St := ⟨[(0, x0), (3, x3), (8, x8), (9, x9), (10, x10), (11, x11)], [], ⟨B, H⟩⟩
@[simp] theorem u88_0 (s : St) (k : K) : Run G c88_L0 s k = Run G c88_B0 { s with E := dropE [1, 2, 21] s.E } (.seq c88_L0 k) := w_loop _ _ s k
abbrev S88_1 (x0 x3 x8 x9 x12 : V) (B : List (Nat × List V)) (H : Hp) : St := ⟨[(0, x0), (3, x3), (8, x8), (9, x9), (12, x12)], [], ⟨B, H⟩⟩
@[simp] theorem u88_1 (s : St) (k : K) : Run G c88_L1 s k = Run G c88_B1 { s with E := dropE [10, 11, 21, 33] s.E } (.seq c88_L1 k) := w_loop _ _ s k
abbrev S89_0 (x0 x1 x8 x9 x10 x11 : V) (B : List (Nat × List V)) (H : Hp) : St := ⟨[(0, x0), (1, x1), (8, x8), (9, x9), (10, x10), (11, x11)], [], ⟨B, H⟩⟩
@[simp] theorem u89_0 (s : St) (k : K) : Run G c89_L0 s k = Run G c89_B0 { s with E := dropE [2, 3, 12, 17, 35, 45] s.E } (.seq c89_L0 k) := w_loop _ _ s k
abbrev S91_0 (x0 x8 x9 : V) (B : List (Nat × List V)) (H : Hp) : St := ⟨[(0, x0), (8, x8), (9, x9)], [], ⟨B, H⟩⟩
@[simp] theorem u91_0 (s : St) (k : K) : Run G c91_L0 s k = Run G c91_B0 { s with E := dropE [1, 2, 3, 15] s.E } (.seq c91_L0 k) := w_loop _ _ s k
abbrev S92_0 (x0 x1 x2 x3 x9 x10 : V) (B : List (Nat × List V)) (H : Hp) : St := ⟨[(0, x0), (1, x1), (2, x2), (3, x3), (9, x9), (10, x10)], [], ⟨B, H⟩⟩
@[simp] theorem u92_0 (s : St) (k : K) : Run G c92_L0 s k = Run G c92_B0 { s with E := dropE [16, 36] s.E } (.seq c92_L0 k) := w_loop _ _ s k
abbrev S92_1 (x0 x1 x2 x3 x9 x10 x11 : V) (B : List (Nat × List V)) (H : Hp) : St := ⟨[(0, x0), (1, x1), (2, x2), (3, x3), (9, x9), (10, x10), (11, x11)], [], ⟨B, H⟩⟩
@[simp] theorem u92_1 (s : St) (k : K) : Run G c92_L1 s k = Run G c92_B1 { s with E := dropE [36, 41, 45, 65, 69, 84] s.E } (.seq c92_L1 k) := w_loop _ _ s k
abbrev S92_2 (x0 x1 x2 x3 x9 x10 x12 : V) (B : List (Nat × List V)) (H : Hp) : St := ⟨[(0, x0), (1, x1), (2, x2), (3, x3), (9, x9), (10, x10), (12, x12)], [], ⟨B, H⟩⟩
@[simp] theorem u92_2 (s : St) (k : K) : Run G c92_L2 s k = Run G c92_B2 { s with E := dropE [11, 36, 41, 45, 65, 69, 84, 104, 109, 124] s.E } (.seq c92_L2 k) := w_loop _ _ s k
abbrev S92_3 (x0 x1 x2 x3 x9 x10 : V) (B : List (Nat × List V)) (H : Hp) : St := ⟨[(0, x0), (1, x1), (2, x2), (3, x3), (9, x9), (10, x10)], [], ⟨B, H⟩⟩
@[simp] theorem u92_3 (s : St) (k : K) : Run G c92_L3 s k = Run G c92_B3 { s with E := dropE [8, 11, 12, 36, 41, 45, 65, 69, 84, 104, 109, 124] s.E } (.seq c92_L3 k) := w_loop _ _ s k
abbrev S93_0 (x0 x1 x4 x11 x12 : V) (B : List (Nat × List V)) (H : Hp) : St := ⟨[(0, x0), (1, x1), (4, x4), (11, x11), (12, x12)], [], ⟨B, H⟩⟩
@[simp] theorem u93_0 (s : St) (k : K) : Run G c93_L0 s k = Run G c93_B0 { s with E := dropE [2, 3, 10, 47, 65, 70] s.E } (.seq c93_L0 k) := w_loop _ _ s k
abbrev S93_1 (x0 x1 x4 x11 x12 : V) (B : List (Nat × List V)) (H : Hp) : St := ⟨[(0, x0), (1, x1), (4, x4), (11, x11), (12, x12)], [], ⟨B, H⟩⟩
@[simp] theorem u93_1 (s : St) (k : K) : Run G c93_L1 s k = Run G c93_B1 { s with E := dropE [47, 65] s.E } (.seq c93_L1 k) := w_loop _ _ s k
abbrev S93_2 (x0 x1 x4 x11 x12 : V) (B : List (Nat × List V)) (H : Hp) : St := ⟨[(0, x0), (1, x1), (4, x4), (11, x11), (12, x12)], [], ⟨B, H⟩⟩
@[simp] theorem u93_2 (s : St) (k : K) : Run G c93_L2 s k = Run G c93_B2 { s with E := dropE [2, 3, 10, 47, 65, 70] s.E } (.seq c93_L2 k) := w_loop _ _ s k
abbrev S94_0 (x0 x1 x4 x12 x13 : V) (B : List (Nat × List V)) (H : Hp) : St := ⟨[(0, x0), (1, x1), (4, x4), (12, x12), (13, x13)], [], ⟨B, H⟩⟩
@[simp] theorem u94_0 (s : St) (k : K) : Run G c94_L0 s k = Run G c94_B0 { s with E := dropE [2, 3, 10, 11, 47] s.E } (.seq c94_L0 k) := w_loop _ _ s k
abbrev S94_1 (x0 x1 x4 x12 x13 : V) (B : List (Nat × List V)) (H : Hp) : St := ⟨[(0, x0), (1, x1), (4, x4), (12, x12), (13, x13)], [], ⟨B, H⟩⟩
@[simp] theorem u94_1 (s : St) (k : K) : Run G c94_L1 s k = Run G c94_B1 { s with E := dropE [47, 66] s.E } (.seq c94_L1 k) := w_loop _ _ s k
abbrev S94_2 (x0 x1 x4 x12 x13 : V) (B : List (Nat × List V)) (H : Hp) : St := ⟨[(0, x0), (1, x1), (4, x4), (12, x12), (13, x13)], [], ⟨B, H⟩⟩
@[simp] theorem u94_2 (s : St) (k : K) : Run G c94_L2 s k = Run G c94_B2 { s with E := dropE [66, 71, 120, 139, 144] s.E } (.seq c94_L2 k) := w_loop _ _ s k
abbrev S94_3 (x0 x1 x4 x12 x13 : V) (B : List (Nat × List V)) (H : Hp) : St := ⟨[(0, x0), (1, x1), (4, x4), (12, x12), (13, x13)], [], ⟨B, H⟩⟩
@[simp] theorem u94_3 (s : St) (k : K) : Run G c94_L3 s k = Run G c94_B3 { s with E := dropE [120, 139] s.E } (.seq c94_L3 k) := w_loop _ _ s k
abbrev S94_4 (x0 x1 x4 x12 x13 : V) (B : List (Nat × List V)) (H : Hp) : St := ⟨[(0, x0), (1, x1), (4, x4), (12, x12), (13, x13)], [], ⟨B, H⟩⟩
@[simp] theorem u94_4 (s : St) (k : K) : Run G c94_L4 s k = Run G c94_B4 { s with E := dropE [66, 71, 120, 139, 144] s.E } (.seq c94_L4 k) := w_loop _ _ s k
abbrev S96_0 (x0 x2 x3 x4 x10 : V) (B : List (Nat × List V)) (H : Hp) : St := ⟨[(0, x0), (2, x2), (3, x3), (4, x4), (10, x10)], [], ⟨B, H⟩⟩
@[simp] theorem u96_0 (s : St) (k : K) : Run G c96_L0 s k = Run G c96_B0 { s with E := dropE [1, 11, 18, 40, 58] s.E } (.seq c96_L0 k) := w_loop _ _ s k
end Go.Mx.Tryd
