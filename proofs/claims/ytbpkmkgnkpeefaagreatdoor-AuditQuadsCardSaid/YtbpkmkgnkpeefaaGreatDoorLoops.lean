/- The loops of this seat, one round at a time. -/
import Derived.Test.YtbpkmkgnkpeefaaGreatDoorSeat
namespace Go.Mx.Tryz
abbrev S7_0 (x1 x30 x31 x32 : V) (B : List (Nat × List V)) (H : Hp) : St := ⟨[(1, x1), (30, x30), (31, x31), (32, x32)], [], ⟨B, H⟩⟩
@[simp] theorem u7_0 (s : St) (k : K) : Run G c7_L0 s k = Run G c7_B0 { s with E := dropE [0, 2, 3, 4, 12, 15, 24, 33, 50] s.E } (.seq c7_L0 k) := w_loop _ _ s k
abbrev S7_1 (x5 x6 x9 x62 x63 x64 x75 x76 : V) (B : List (Nat × List V)) (H : Hp) : St := ⟨[(5, x5), (6, x6), (9, x9), (62, x62), (63, x63), (64, x64), (75, x75), (76, x76)], [], ⟨B, H⟩⟩
@[simp] theorem u7_1 (s : St) (k : K) : Run G c7_L1 s k = Run G c7_B1 { s with E := dropE [8, 11, 65, 77, 84] s.E } (.seq c7_L1 k) := w_loop _ _ s k
abbrev S7_2 (x5 x6 x62 x63 x64 : V) (B : List (Nat × List V)) (H : Hp) : St := ⟨[(5, x5), (6, x6), (62, x62), (63, x63), (64, x64)], [], ⟨B, H⟩⟩
@[simp] theorem u7_2 (s : St) (k : K) : Run G c7_L2 s k = Run G c7_B2 { s with E := dropE [1, 9, 30, 31, 32, 33, 75, 76, 77] s.E } (.seq c7_L2 k) := w_loop _ _ s k
abbrev S8_0 (x1 x3 x4 : V) (B : List (Nat × List V)) (H : Hp) : St := ⟨[(1, x1), (3, x3), (4, x4)], [], ⟨B, H⟩⟩
@[simp] theorem u8_0 (s : St) (k : K) : Run G c8_L0 s k = Run G c8_B0 { s with E := dropE [28, 32, 58] s.E } (.seq c8_L0 k) := w_loop _ _ s k
abbrev S8_1 (x1 x3 : V) (B : List (Nat × List V)) (H : Hp) : St := ⟨[(1, x1), (3, x3)], [], ⟨B, H⟩⟩
@[simp] theorem u8_1 (s : St) (k : K) : Run G c8_L1 s k = Run G c8_B1 { s with E := dropE [0, 2, 4, 19, 23, 32] s.E } (.seq c8_L1 k) := w_loop _ _ s k
abbrev S8_2 (x1 x5 x6 x7 x8 : V) (B : List (Nat × List V)) (H : Hp) : St := ⟨[(1, x1), (5, x5), (6, x6), (7, x7), (8, x8)], [], ⟨B, H⟩⟩
@[simp] theorem u8_2 (s : St) (k : K) : Run G c8_L2 s k = Run G c8_B2 { s with E := dropE [63, 77, 92] s.E } (.seq c8_L2 k) := w_loop _ _ s k
abbrev S8_3 (x1 x5 x6 : V) (B : List (Nat × List V)) (H : Hp) : St := ⟨[(1, x1), (5, x5), (6, x6)], [], ⟨B, H⟩⟩
@[simp] theorem u8_3 (s : St) (k : K) : Run G c8_L3 s k = Run G c8_B3 { s with E := dropE [3, 7, 8, 28, 77] s.E } (.seq c8_L3 k) := w_loop _ _ s k
abbrev S8_4 (x1 x5 x9 : V) (B : List (Nat × List V)) (H : Hp) : St := ⟨[(1, x1), (5, x5), (9, x9)], [], ⟨B, H⟩⟩
@[simp] theorem u8_4 (s : St) (k : K) : Run G c8_L4 s k = Run G c8_B4 { s with E := dropE [6, 63, 101, 108] s.E } (.seq c8_L4 k) := w_loop _ _ s k
abbrev S8_5 (x1 x10 x11 : V) (B : List (Nat × List V)) (H : Hp) : St := ⟨[(1, x1), (10, x10), (11, x11)], [], ⟨B, H⟩⟩
@[simp] theorem u8_5 (s : St) (k : K) : Run G c8_L5 s k = Run G c8_B5 { s with E := dropE [113, 118, 131] s.E } (.seq c8_L5 k) := w_loop _ _ s k
abbrev S8_6 (x1 x10 : V) (B : List (Nat × List V)) (H : Hp) : St := ⟨[(1, x1), (10, x10)], [], ⟨B, H⟩⟩
@[simp] theorem u8_6 (s : St) (k : K) : Run G c8_L6 s k = Run G c8_B6 { s with E := dropE [5, 9, 11, 101, 118] s.E } (.seq c8_L6 k) := w_loop _ _ s k
abbrev S9_0 (x1 x3 x4 : V) (B : List (Nat × List V)) (H : Hp) : St := ⟨[(1, x1), (3, x3), (4, x4)], [], ⟨B, H⟩⟩
@[simp] theorem u9_0 (s : St) (k : K) : Run G c9_L0 s k = Run G c9_B0 { s with E := dropE [0, 2, 5, 6, 20, 28, 76] s.E } (.seq c9_L0 k) := w_loop _ _ s k
abbrev S17_0 (x2 x3 x5 x31 x32 x33 : V) (B : List (Nat × List V)) (H : Hp) : St := ⟨[(2, x2), (3, x3), (5, x5), (31, x31), (32, x32), (33, x33)], [], ⟨B, H⟩⟩
@[simp] theorem u17_0 (s : St) (k : K) : Run G c17_L0 s k = Run G c17_B0 { s with E := dropE [0, 1, 4, 7, 12, 16, 25, 34, 45] s.E } (.seq c17_L0 k) := w_loop _ _ s k
abbrev S17_1 (x2 x3 x50 x51 x52 : V) (B : List (Nat × List V)) (H : Hp) : St := ⟨[(2, x2), (3, x3), (50, x50), (51, x51), (52, x52)], [], ⟨B, H⟩⟩
@[simp] theorem u17_1 (s : St) (k : K) : Run G c17_L1 s k = Run G c17_B1 { s with E := dropE [5, 8, 9, 31, 32, 33, 34, 53, 64] s.E } (.seq c17_L1 k) := w_loop _ _ s k
abbrev S22_0 (x2 x3 x54 x55 x56 : V) (B : List (Nat × List V)) (H : Hp) : St := ⟨[(2, x2), (3, x3), (54, x54), (55, x55), (56, x56)], [], ⟨B, H⟩⟩
@[simp] theorem u22_0 (s : St) (k : K) : Run G c22_L0 s k = Run G c22_B0 { s with E := dropE [0, 1, 4, 5, 7, 9, 11, 13, 14, 18, 41, 52, 57, 69] s.E } (.seq c22_L0 k) := w_loop _ _ s k
abbrev S24_0 (x0 x3 x4 : V) (B : List (Nat × List V)) (H : Hp) : St := ⟨[(0, x0), (3, x3), (4, x4)], [], ⟨B, H⟩⟩
@[simp] theorem u24_0 (s : St) (k : K) : Run G c24_L0 s k = Run G c24_B0 { s with E := dropE [2, 7, 15] s.E } (.seq c24_L0 k) := w_loop _ _ s k
abbrev S25_0 (x0 x3 x4 : V) (B : List (Nat × List V)) (H : Hp) : St := ⟨[(0, x0), (3, x3), (4, x4)], [], ⟨B, H⟩⟩
@[simp] theorem u25_0 (s : St) (k : K) : Run G c25_L0 s k = Run G c25_B0 { s with E := dropE [2, 7, 15] s.E } (.seq c25_L0 k) := w_loop _ _ s k
abbrev S27_0 (x1 x2 x5 : V) (B : List (Nat × List V)) (H : Hp) : St := ⟨[(1, x1), (2, x2), (5, x5)], [], ⟨B, H⟩⟩
@[simp] theorem u27_0 (s : St) (k : K) : Run G c27_L0 s k = Run G c27_B0 { s with E := dropE [0, 4, 17, 21] s.E } (.seq c27_L0 k) := w_loop _ _ s k
abbrev S28_0 (x2 x3 x5 : V) (B : List (Nat × List V)) (H : Hp) : St := ⟨[(2, x2), (3, x3), (5, x5)], [], ⟨B, H⟩⟩
@[simp] theorem u28_0 (s : St) (k : K) : Run G c28_L0 s k = Run G c28_B0 { s with E := dropE [0, 1, 4, 10, 20] s.E } (.seq c28_L0 k) := w_loop _ _ s k
abbrev S29_0 (x0 x13 x14 x15 : V) (B : List (Nat × List V)) (H : Hp) : St := ⟨[(0, x0), (13, x13), (14, x14), (15, x15)], [], ⟨B, H⟩⟩
@[simp] theorem u29_0 (s : St) (k : K) : Run G c29_L0 s k = Run G c29_B0 { s with E := dropE [2, 3, 4, 12, 16, 51] s.E } (.seq c29_L0 k) := w_loop _ _ s k
abbrev S33_0 (x1 x3 x4 x8 x9 x10 x16 x17 x18 : V) (B : List (Nat × List V)) (H : Hp) : St := ⟨[(1, x1), (3, x3), (4, x4), (8, x8), (9, x9), (10, x10), (16, x16), (17, x17), (18, x18)], [], ⟨B, H⟩⟩
@[simp] theorem u33_0 (s : St) (k : K) : Run G c33_L0 s k = Run G c33_B0 { s with E := dropE [6, 11, 19, 22, 25, 35] s.E } (.seq c33_L0 k) := w_loop _ _ s k
abbrev S33_1 (x1 x8 x9 x10 : V) (B : List (Nat × List V)) (H : Hp) : St := ⟨[(1, x1), (8, x8), (9, x9), (10, x10)], [], ⟨B, H⟩⟩
@[simp] theorem u33_1 (s : St) (k : K) : Run G c33_L1 s k = Run G c33_B1 { s with E := dropE [0, 2, 3, 4, 16, 17, 18, 19] s.E } (.seq c33_L1 k) := w_loop _ _ s k
abbrev S34_0 (x3 x9 x10 x11 : V) (B : List (Nat × List V)) (H : Hp) : St := ⟨[(3, x3), (9, x9), (10, x10), (11, x11)], [], ⟨B, H⟩⟩
@[simp] theorem u34_0 (s : St) (k : K) : Run G c34_L0 s k = Run G c34_B0 { s with E := dropE [0, 1, 2, 5, 6, 12, 25] s.E } (.seq c34_L0 k) := w_loop _ _ s k
abbrev S35_0 (x1 x3 x4 x40 x41 x42 : V) (B : List (Nat × List V)) (H : Hp) : St := ⟨[(1, x1), (3, x3), (4, x4), (40, x40), (41, x41), (42, x42)], [], ⟨B, H⟩⟩
@[simp] theorem u35_0 (s : St) (k : K) : Run G c35_L0 s k = Run G c35_B0 { s with E := dropE [6, 20, 27, 34, 43] s.E } (.seq c35_L0 k) := w_loop _ _ s k
abbrev S35_1 (x1 x3 x4 : V) (B : List (Nat × List V)) (H : Hp) : St := ⟨[(1, x1), (3, x3), (4, x4)], [], ⟨B, H⟩⟩
@[simp] theorem u35_1 (s : St) (k : K) : Run G c35_L1 s k = Run G c35_B1 { s with E := dropE [0, 2, 20, 27, 34, 40, 41, 42, 43] s.E } (.seq c35_L1 k) := w_loop _ _ s k
abbrev S45_0 (x3 x9 x10 x11 : V) (B : List (Nat × List V)) (H : Hp) : St := ⟨[(3, x3), (9, x9), (10, x10), (11, x11)], [], ⟨B, H⟩⟩
@[simp] theorem u45_0 (s : St) (k : K) : Run G c45_L0 s k = Run G c45_B0 { s with E := dropE [0, 1, 2, 5, 6, 7, 12, 16, 27] s.E } (.seq c45_L0 k) := w_loop _ _ s k
abbrev S46_0 (x2 x3 x6 x8 : V) (B : List (Nat × List V)) (H : Hp) : St := ⟨[(2, x2), (3, x3), (6, x6), (8, x8)], [], ⟨B, H⟩⟩
@[simp] theorem u46_0 (s : St) (k : K) : Run G c46_L0 s k = Run G c46_B0 { s with E := dropE [0, 1, 4, 5, 7, 9, 10, 11, 14, 21, 24, 28, 46, 59, 67] s.E } (.seq c46_L0 k) := w_loop _ _ s k
abbrev S55_0 (x8 x20 x21 x22 : V) (B : List (Nat × List V)) (H : Hp) : St := ⟨[(8, x8), (20, x20), (21, x21), (22, x22)], [], ⟨B, H⟩⟩
@[simp] theorem u55_0 (s : St) (k : K) : Run G c55_L0 s k = Run G c55_B0 { s with E := dropE [0, 1, 2, 3, 4, 5, 6, 7, 10, 18, 23] s.E } (.seq c55_L0 k) := w_loop _ _ s k
abbrev S58_0 (x1 x4 x25 x26 x27 : V) (B : List (Nat × List V)) (H : Hp) : St := ⟨[(1, x1), (4, x4), (25, x25), (26, x26), (27, x27)], [], ⟨B, H⟩⟩
@[simp] theorem u58_0 (s : St) (k : K) : Run G c58_L0 s k = Run G c58_B0 { s with E := dropE [0, 2, 3, 5, 6, 7, 8, 9, 23, 28, 58] s.E } (.seq c58_L0 k) := w_loop _ _ s k
abbrev S60_0 (x0 x1 x7 x8 : V) (B : List (Nat × List V)) (H : Hp) : St := ⟨[(0, x0), (1, x1), (7, x7), (8, x8)], [], ⟨B, H⟩⟩
@[simp] theorem u60_0 (s : St) (k : K) : Run G c60_L0 s k = Run G c60_B0 { s with E := dropE [4, 5, 9, 16] s.E } (.seq c60_L0 k) := w_loop _ _ s k
abbrev S62_0 (x1 x2 x15 x16 x17 : V) (B : List (Nat × List V)) (H : Hp) : St := ⟨[(1, x1), (2, x2), (15, x15), (16, x16), (17, x17)], [], ⟨B, H⟩⟩
@[simp] theorem u62_0 (s : St) (k : K) : Run G c62_L0 s k = Run G c62_B0 { s with E := dropE [0, 6, 7, 8, 9, 14, 18, 30] s.E } (.seq c62_L0 k) := w_loop _ _ s k
abbrev S64_0 (x0 x1 x12 x13 : V) (B : List (Nat × List V)) (H : Hp) : St := ⟨[(0, x0), (1, x1), (12, x12), (13, x13)], [], ⟨B, H⟩⟩
@[simp] theorem u64_0 (s : St) (k : K) : Run G c64_L0 s k = Run G c64_B0 { s with E := dropE [4, 5, 10, 14, 24] s.E } (.seq c64_L0 k) := w_loop _ _ s k
abbrev S65_0 (x1 x4 x5 x47 x48 x49 x74 x75 x76 : V) (B : List (Nat × List V)) (H : Hp) : St := ⟨[(1, x1), (4, x4), (5, x5), (47, x47), (48, x48), (49, x49), (74, x74), (75, x75), (76, x76)], [], ⟨B, H⟩⟩
@[simp] theorem u65_0 (s : St) (k : K) : Run G c65_L0 s k = Run G c65_B0 { s with E := dropE [7, 50, 72, 77, 114] s.E } (.seq c65_L0 k) := w_loop _ _ s k
abbrev S65_1 (x1 x47 x48 x49 : V) (B : List (Nat × List V)) (H : Hp) : St := ⟨[(1, x1), (47, x47), (48, x48), (49, x49)], [], ⟨B, H⟩⟩
@[simp] theorem u65_1 (s : St) (k : K) : Run G c65_L1 s k = Run G c65_B1 { s with E := dropE [0, 2, 3, 4, 5, 45, 74, 75, 76, 77] s.E } (.seq c65_L1 k) := w_loop _ _ s k
abbrev S66_0 (x1 x2 x4 x5 x6 x8 x9 x15 x16 x17 x24 x25 x26 : V) (B : List (Nat × List V)) (H : Hp) : St := ⟨[(1, x1), (2, x2), (4, x4), (5, x5), (6, x6), (8, x8), (9, x9), (15, x15), (16, x16), (17, x17), (24, x24), (25, x25), (26, x26)], [], ⟨B, H⟩⟩
@[simp] theorem u66_0 (s : St) (k : K) : Run G c66_L0 s k = Run G c66_B0 { s with E := dropE [10, 11, 18, 27, 33] s.E } (.seq c66_L0 k) := w_loop _ _ s k
abbrev S66_1 (x1 x2 x4 x5 x6 x15 x16 x17 : V) (B : List (Nat × List V)) (H : Hp) : St := ⟨[(1, x1), (2, x2), (4, x4), (5, x5), (6, x6), (15, x15), (16, x16), (17, x17)], [], ⟨B, H⟩⟩
@[simp] theorem u66_1 (s : St) (k : K) : Run G c66_L1 s k = Run G c66_B1 { s with E := dropE [0, 8, 9, 24, 25, 26, 27] s.E } (.seq c66_L1 k) := w_loop _ _ s k
abbrev S71_0 (x2 x5 x12 x13 x14 : V) (B : List (Nat × List V)) (H : Hp) : St := ⟨[(2, x2), (5, x5), (12, x12), (13, x13), (14, x14)], [], ⟨B, H⟩⟩
@[simp] theorem u71_0 (s : St) (k : K) : Run G c71_L0 s k = Run G c71_B0 { s with E := dropE [0, 1, 4, 7, 15] s.E } (.seq c71_L0 k) := w_loop _ _ s k
abbrev S72_0 (x0 x1 x7 x8 : V) (B : List (Nat × List V)) (H : Hp) : St := ⟨[(0, x0), (1, x1), (7, x7), (8, x8)], [], ⟨B, H⟩⟩
@[simp] theorem u72_0 (s : St) (k : K) : Run G c72_L0 s k = Run G c72_B0 { s with E := dropE [4, 5, 9, 16] s.E } (.seq c72_L0 k) := w_loop _ _ s k
abbrev S73_0 (x0 x8 x9 x10 : V) (B : List (Nat × List V)) (H : Hp) : St := ⟨[(0, x0), (8, x8), (9, x9), (10, x10)], [], ⟨B, H⟩⟩
@[simp] theorem u73_0 (s : St) (k : K) : Run G c73_L0 s k = Run G c73_B0 { s with E := dropE [2, 3, 4, 7, 11, 42] s.E } (.seq c73_L0 k) := w_loop _ _ s k
abbrev S74_0 (x0 x8 x9 x10 : V) (B : List (Nat × List V)) (H : Hp) : St := ⟨[(0, x0), (8, x8), (9, x9), (10, x10)], [], ⟨B, H⟩⟩
@[simp] theorem u74_0 (s : St) (k : K) : Run G c74_L0 s k = Run G c74_B0 { s with E := dropE [2, 3, 4, 7, 11, 61] s.E } (.seq c74_L0 k) := w_loop _ _ s k
abbrev S75_0 (x6 x22 x23 x24 : V) (B : List (Nat × List V)) (H : Hp) : St := ⟨[(6, x6), (22, x22), (23, x23), (24, x24)], [], ⟨B, H⟩⟩
@[simp] theorem u75_0 (s : St) (k : K) : Run G c75_L0 s k = Run G c75_B0 { s with E := dropE [0, 1, 4, 5, 8, 19, 25, 34, 42] s.E } (.seq c75_L0 k) := w_loop _ _ s k
abbrev S75_1 (x9 x48 : V) (B : List (Nat × List V)) (H : Hp) : St := ⟨[(9, x9), (48, x48)], [], ⟨B, H⟩⟩
@[simp] theorem u75_1 (s : St) (k : K) : Run G c75_L1 s k = Run G c75_B1 { s with E := dropE [6, 10, 11, 22, 23, 24, 25, 50] s.E } (.seq c75_L1 k) := w_loop _ _ s k
abbrev S76_0 (x1 x4 x5 x25 x26 x27 : V) (B : List (Nat × List V)) (H : Hp) : St := ⟨[(1, x1), (4, x4), (5, x5), (25, x25), (26, x26), (27, x27)], [], ⟨B, H⟩⟩
@[simp] theorem u76_0 (s : St) (k : K) : Run G c76_L0 s k = Run G c76_B0 { s with E := dropE [0, 2, 3, 6, 7, 8, 9, 23, 28, 50, 54, 64, 88] s.E } (.seq c76_L0 k) := w_loop _ _ s k
abbrev S79_0 (x0 x3 x6 x7 : V) (B : List (Nat × List V)) (H : Hp) : St := ⟨[(0, x0), (3, x3), (6, x6), (7, x7)], [], ⟨B, H⟩⟩
@[simp] theorem u79_0 (s : St) (k : K) : Run G c79_L0 s k = Run G c79_B0 { s with E := dropE [2, 4, 8] s.E } (.seq c79_L0 k) := w_loop _ _ s k
abbrev S80_0 (x1 x3 x23 x24 : V) (B : List (Nat × List V)) (H : Hp) : St := ⟨[(1, x1), (3, x3), (23, x23), (24, x24)], [], ⟨B, H⟩⟩
@[simp] theorem u80_0 (s : St) (k : K) : Run G c80_L0 s k = Run G c80_B0 { s with E := dropE [0, 2, 6, 7, 8, 9, 10, 15, 22, 25, 33] s.E } (.seq c80_L0 k) := w_loop _ _ s k
abbrev S93_0 (x2 x3 x54 x55 x56 : V) (B : List (Nat × List V)) (H : Hp) : St := ⟨[(2, x2), (3, x3), (54, x54), (55, x55), (56, x56)], [], ⟨B, H⟩⟩
@[simp] theorem u93_0 (s : St) (k : K) : Run G c93_L0 s k = Run G c93_B0 { s with E := dropE [0, 1, 4, 5, 7, 16, 20, 31, 46, 57, 63] s.E } (.seq c93_L0 k) := w_loop _ _ s k
abbrev S93_1 (x2 x3 x8 x66 x67 x68 : V) (B : List (Nat × List V)) (H : Hp) : St := ⟨[(2, x2), (3, x3), (8, x8), (66, x66), (67, x67), (68, x68)], [], ⟨B, H⟩⟩
@[simp] theorem u93_1 (s : St) (k : K) : Run G c93_L1 s k = Run G c93_B1 { s with E := dropE [10, 11, 12, 54, 55, 56, 57, 69, 81] s.E } (.seq c93_L1 k) := w_loop _ _ s k
abbrev S93_2 (x8 x13 x89 x90 x95 x96 x97 : V) (B : List (Nat × List V)) (H : Hp) : St := ⟨[(8, x8), (13, x13), (89, x89), (90, x90), (95, x95), (96, x96), (97, x97)], [], ⟨B, H⟩⟩
@[simp] theorem u93_2 (s : St) (k : K) : Run G c93_L2 s k = Run G c93_B2 { s with E := dropE [15, 91, 98, 107] s.E } (.seq c93_L2 k) := w_loop _ _ s k
abbrev S93_3 (x8 x89 x90 : V) (B : List (Nat × List V)) (H : Hp) : St := ⟨[(8, x8), (89, x89), (90, x90)], [], ⟨B, H⟩⟩
@[simp] theorem u93_3 (s : St) (k : K) : Run G c93_L3 s k = Run G c93_B3 { s with E := dropE [2, 3, 13, 66, 67, 68, 69, 95, 96, 97, 98] s.E } (.seq c93_L3 k) := w_loop _ _ s k
abbrev S94_0 (x4 x8 x9 x10 : V) (B : List (Nat × List V)) (H : Hp) : St := ⟨[(4, x4), (8, x8), (9, x9), (10, x10)], [], ⟨B, H⟩⟩
@[simp] theorem u94_0 (s : St) (k : K) : Run G c94_L0 s k = Run G c94_B0 { s with E := dropE [0, 2, 3, 6, 11, 14, 19, 28] s.E } (.seq c94_L0 k) := w_loop _ _ s k
abbrev S94_1 (x4 x7 : V) (B : List (Nat × List V)) (H : Hp) : St := ⟨[(4, x4), (7, x7)], [], ⟨B, H⟩⟩
@[simp] theorem u94_1 (s : St) (k : K) : Run G c94_L1 s k = Run G c94_B1 { s with E := dropE [8, 9, 10, 11, 42, 56] s.E } (.seq c94_L1 k) := w_loop _ _ s k
abbrev S96_0 (x0 x6 x16 x17 x18 : V) (B : List (Nat × List V)) (H : Hp) : St := ⟨[(0, x0), (6, x6), (16, x16), (17, x17), (18, x18)], [], ⟨B, H⟩⟩
@[simp] theorem u96_0 (s : St) (k : K) : Run G c96_L0 s k = Run G c96_B0 { s with E := dropE [1, 4, 5, 8, 9, 12, 19] s.E } (.seq c96_L0 k) := w_loop _ _ s k
abbrev S97_0 (x1 x2 x8 x26 x27 : V) (B : List (Nat × List V)) (H : Hp) : St := ⟨[(1, x1), (2, x2), (8, x8), (26, x26), (27, x27)], [], ⟨B, H⟩⟩
@[simp] theorem u97_0 (s : St) (k : K) : Run G c97_L0 s k = Run G c97_B0 { s with E := dropE [0, 6, 7, 9, 12, 22, 28, 54] s.E } (.seq c97_L0 k) := w_loop _ _ s k
abbrev S98_0 (x3 x5 x24 x25 x26 : V) (B : List (Nat × List V)) (H : Hp) : St := ⟨[(3, x3), (5, x5), (24, x24), (25, x25), (26, x26)], [], ⟨B, H⟩⟩
@[simp] theorem u98_0 (s : St) (k : K) : Run G c98_L0 s k = Run G c98_B0 { s with E := dropE [0, 2, 4, 7, 19, 27] s.E } (.seq c98_L0 k) := w_loop _ _ s k
abbrev S100_0 (x0 x12 x13 x27 x28 : V) (B : List (Nat × List V)) (H : Hp) : St := ⟨[(0, x0), (12, x12), (13, x13), (27, x27), (28, x28)], [], ⟨B, H⟩⟩
@[simp] theorem u100_0 (s : St) (k : K) : Run G c100_L0 s k = Run G c100_B0 { s with E := dropE [1, 2, 3, 4, 10, 11, 14, 15, 21, 29, 40] s.E } (.seq c100_L0 k) := w_loop _ _ s k
abbrev S101_0 (x3 x6 x7 x8 : V) (B : List (Nat × List V)) (H : Hp) : St := ⟨[(3, x3), (6, x6), (7, x7), (8, x8)], [], ⟨B, H⟩⟩
@[simp] theorem u101_0 (s : St) (k : K) : Run G c101_L0 s k = Run G c101_B0 { s with E := dropE [0, 2, 5, 9, 14] s.E } (.seq c101_L0 k) := w_loop _ _ s k
abbrev S103_0 (x0 x1 x12 x13 : V) (B : List (Nat × List V)) (H : Hp) : St := ⟨[(0, x0), (1, x1), (12, x12), (13, x13)], [], ⟨B, H⟩⟩
@[simp] theorem u103_0 (s : St) (k : K) : Run G c103_L0 s k = Run G c103_B0 { s with E := dropE [4, 5, 10, 14, 24] s.E } (.seq c103_L0 k) := w_loop _ _ s k
abbrev S105_0 (x0 x1 x2 x7 x14 x15 x16 : V) (B : List (Nat × List V)) (H : Hp) : St := ⟨[(0, x0), (1, x1), (2, x2), (7, x7), (14, x14), (15, x15), (16, x16)], [], ⟨B, H⟩⟩
@[simp] theorem u105_0 (s : St) (k : K) : Run G c105_L0 s k = Run G c105_B0 { s with E := dropE [6, 9, 17] s.E } (.seq c105_L0 k) := w_loop _ _ s k
abbrev S114_0 (x3 x9 x10 x11 : V) (B : List (Nat × List V)) (H : Hp) : St := ⟨[(3, x3), (9, x9), (10, x10), (11, x11)], [], ⟨B, H⟩⟩
@[simp] theorem u114_0 (s : St) (k : K) : Run G c114_L0 s k = Run G c114_B0 { s with E := dropE [0, 2, 5, 12] s.E } (.seq c114_L0 k) := w_loop _ _ s k
abbrev S116_0 (x0 x1 x7 x8 : V) (B : List (Nat × List V)) (H : Hp) : St := ⟨[(0, x0), (1, x1), (7, x7), (8, x8)], [], ⟨B, H⟩⟩
@[simp] theorem u116_0 (s : St) (k : K) : Run G c116_L0 s k = Run G c116_B0 { s with E := dropE [4, 5, 9, 16] s.E } (.seq c116_L0 k) := w_loop _ _ s k
abbrev S118_0 (x2 x6 x7 x8 x10 x18 x19 x20 x25 x26 x27 : V) (B : List (Nat × List V)) (H : Hp) : St := ⟨[(2, x2), (6, x6), (7, x7), (8, x8), (10, x10), (18, x18), (19, x19), (20, x20), (25, x25), (26, x26), (27, x27)], [], ⟨B, H⟩⟩
@[simp] theorem u118_0 (s : St) (k : K) : Run G c118_L0 s k = Run G c118_B0 { s with E := dropE [12, 13, 14, 21, 28, 44, 52, 55] s.E } (.seq c118_L0 k) := w_loop _ _ s k
abbrev S118_1 (x2 x6 x7 x8 x18 x19 x20 : V) (B : List (Nat × List V)) (H : Hp) : St := ⟨[(2, x2), (6, x6), (7, x7), (8, x8), (18, x18), (19, x19), (20, x20)], [], ⟨B, H⟩⟩
@[simp] theorem u118_1 (s : St) (k : K) : Run G c118_L1 s k = Run G c118_B1 { s with E := dropE [0, 1, 4, 5, 10, 25, 26, 27, 28] s.E } (.seq c118_L1 k) := w_loop _ _ s k
abbrev S119_0 (x0 x1 x12 x13 : V) (B : List (Nat × List V)) (H : Hp) : St := ⟨[(0, x0), (1, x1), (12, x12), (13, x13)], [], ⟨B, H⟩⟩
@[simp] theorem u119_0 (s : St) (k : K) : Run G c119_L0 s k = Run G c119_B0 { s with E := dropE [4, 5, 10, 14, 24] s.E } (.seq c119_L0 k) := w_loop _ _ s k
abbrev S130_0 (x0 x2 x4 x5 x26 x27 x28 : V) (B : List (Nat × List V)) (H : Hp) : St := ⟨[(0, x0), (2, x2), (4, x4), (5, x5), (26, x26), (27, x27), (28, x28)], [], ⟨B, H⟩⟩
@[simp] theorem u130_0 (s : St) (k : K) : Run G c130_L0 s k = Run G c130_B0 { s with E := dropE [3, 7, 16, 29] s.E } (.seq c130_L0 k) := w_loop _ _ s k
abbrev S134_0 (x0 x1 x3 x4 x7 x33 x34 x35 : V) (B : List (Nat × List V)) (H : Hp) : St := ⟨[(0, x0), (1, x1), (3, x3), (4, x4), (7, x7), (33, x33), (34, x34), (35, x35)], [], ⟨B, H⟩⟩
@[simp] theorem u134_0 (s : St) (k : K) : Run G c134_L0 s k = Run G c134_B0 { s with E := dropE [2, 6, 8, 9, 14, 36, 42] s.E } (.seq c134_L0 k) := w_loop _ _ s k
abbrev S135_0 (x3 x7 x8 x9 : V) (B : List (Nat × List V)) (H : Hp) : St := ⟨[(3, x3), (7, x7), (8, x8), (9, x9)], [], ⟨B, H⟩⟩
@[simp] theorem u135_0 (s : St) (k : K) : Run G c135_L0 s k = Run G c135_B0 { s with E := dropE [0, 2, 5, 10] s.E } (.seq c135_L0 k) := w_loop _ _ s k
abbrev S136_0 (x0 x4 x5 x7 x15 x16 x17 : V) (B : List (Nat × List V)) (H : Hp) : St := ⟨[(0, x0), (4, x4), (5, x5), (7, x7), (15, x15), (16, x16), (17, x17)], [], ⟨B, H⟩⟩
@[simp] theorem u136_0 (s : St) (k : K) : Run G c136_L0 s k = Run G c136_B0 { s with E := dropE [1, 2, 6, 9, 18] s.E } (.seq c136_L0 k) := w_loop _ _ s k
abbrev S144_0 (x0 x1 x2 x3 x4 x10 x11 : V) (B : List (Nat × List V)) (H : Hp) : St := ⟨[(0, x0), (1, x1), (2, x2), (3, x3), (4, x4), (10, x10), (11, x11)], [], ⟨B, H⟩⟩
@[simp] theorem u144_0 (s : St) (k : K) : Run G c144_L0 s k = Run G c144_B0 { s with E := dropE [12, 13, 14, 15, 16, 17, 18, 19, 20, 25, 32, 39, 56, 75, 80, 97, 125] s.E } (.seq c144_L0 k) := w_loop _ _ s k
abbrev S150_0 (x1 x2 x3 x6 x11 x12 : V) (B : List (Nat × List V)) (H : Hp) : St := ⟨[(1, x1), (2, x2), (3, x3), (6, x6), (11, x11), (12, x12)], [], ⟨B, H⟩⟩
@[simp] theorem u150_0 (s : St) (k : K) : Run G c150_L0 s k = Run G c150_B0 { s with E := dropE [0, 7, 8, 10, 13, 14, 15, 16, 17, 25, 30, 40, 50, 61] s.E } (.seq c150_L0 k) := w_loop _ _ s k
abbrev S152_0 (x0 x1 x2 x3 x8 x9 : V) (B : List (Nat × List V)) (H : Hp) : St := ⟨[(0, x0), (1, x1), (2, x2), (3, x3), (8, x8), (9, x9)], [], ⟨B, H⟩⟩
@[simp] theorem u152_0 (s : St) (k : K) : Run G c152_L0 s k = Run G c152_B0 { s with E := dropE [14, 34] s.E } (.seq c152_L0 k) := w_loop _ _ s k
abbrev S152_1 (x0 x1 x2 x3 x8 : V) (B : List (Nat × List V)) (H : Hp) : St := ⟨[(0, x0), (1, x1), (2, x2), (3, x3), (8, x8)], [], ⟨B, H⟩⟩
@[simp] theorem u152_1 (s : St) (k : K) : Run G c152_L1 s k = Run G c152_B1 { s with E := dropE [9, 34] s.E } (.seq c152_L1 k) := w_loop _ _ s k
abbrev S153_0 (x0 x3 x8 x9 x10 x11 : V) (B : List (Nat × List V)) (H : Hp) : St := ⟨[(0, x0), (3, x3), (8, x8), (9, x9), (10, x10), (11, x11)], [], ⟨B, H⟩⟩
@[simp] theorem u153_0 (s : St) (k : K) : Run G c153_L0 s k = Run G c153_B0 { s with E := dropE [1, 2, 21] s.E } (.seq c153_L0 k) := w_loop _ _ s k
abbrev S153_1 (x0 x3 x8 x9 x12 : V) (B : List (Nat × List V)) (H : Hp) : St := ⟨[(0, x0), (3, x3), (8, x8), (9, x9), (12, x12)], [], ⟨B, H⟩⟩
@[simp] theorem u153_1 (s : St) (k : K) : Run G c153_L1 s k = Run G c153_B1 { s with E := dropE [10, 11, 21, 33] s.E } (.seq c153_L1 k) := w_loop _ _ s k
abbrev S154_0 (x0 x1 x8 x9 x10 x11 : V) (B : List (Nat × List V)) (H : Hp) : St := ⟨[(0, x0), (1, x1), (8, x8), (9, x9), (10, x10), (11, x11)], [], ⟨B, H⟩⟩
@[simp] theorem u154_0 (s : St) (k : K) : Run G c154_L0 s k = Run G c154_B0 { s with E := dropE [2, 3, 12, 17, 35, 45] s.E } (.seq c154_L0 k) := w_loop _ _ s k
abbrev S156_0 (x0 x8 x9 : V) (B : List (Nat × List V)) (H : Hp) : St := ⟨[(0, x0), (8, x8), (9, x9)], [], ⟨B, H⟩⟩
@[simp] theorem u156_0 (s : St) (k : K) : Run G c156_L0 s k = Run G c156_B0 { s with E := dropE [1, 2, 3, 15] s.E } (.seq c156_L0 k) := w_loop _ _ s k
abbrev S157_0 (x0 x1 x2 x3 x9 x10 : V) (B : List (Nat × List V)) (H : Hp) : St := ⟨[(0, x0), (1, x1), (2, x2), (3, x3), (9, x9), (10, x10)], [], ⟨B, H⟩⟩
@[simp] theorem u157_0 (s : St) (k : K) : Run G c157_L0 s k = Run G c157_B0 { s with E := dropE [16, 36] s.E } (.seq c157_L0 k) := w_loop _ _ s k
abbrev S157_1 (x0 x1 x2 x3 x9 x10 x11 : V) (B : List (Nat × List V)) (H : Hp) : St := ⟨[(0, x0), (1, x1), (2, x2), (3, x3), (9, x9), (10, x10), (11, x11)], [], ⟨B, H⟩⟩
@[simp] theorem u157_1 (s : St) (k : K) : Run G c157_L1 s k = Run G c157_B1 { s with E := dropE [36, 41, 45, 65, 69, 84] s.E } (.seq c157_L1 k) := w_loop _ _ s k
abbrev S157_2 (x0 x1 x2 x3 x9 x10 x12 : V) (B : List (Nat × List V)) (H : Hp) : St := ⟨[(0, x0), (1, x1), (2, x2), (3, x3), (9, x9), (10, x10), (12, x12)], [], ⟨B, H⟩⟩
@[simp] theorem u157_2 (s : St) (k : K) : Run G c157_L2 s k = Run G c157_B2 { s with E := dropE [11, 36, 41, 45, 65, 69, 84, 104, 109, 124] s.E } (.seq c157_L2 k) := w_loop _ _ s k
abbrev S157_3 (x0 x1 x2 x3 x9 x10 : V) (B : List (Nat × List V)) (H : Hp) : St := ⟨[(0, x0), (1, x1), (2, x2), (3, x3), (9, x9), (10, x10)], [], ⟨B, H⟩⟩
@[simp] theorem u157_3 (s : St) (k : K) : Run G c157_L3 s k = Run G c157_B3 { s with E := dropE [8, 11, 12, 36, 41, 45, 65, 69, 84, 104, 109, 124] s.E } (.seq c157_L3 k) := w_loop _ _ s k
abbrev S158_0 (x0 x1 x4 x11 x12 : V) (B : List (Nat × List V)) (H : Hp) : St := ⟨[(0, x0), (1, x1), (4, x4), (11, x11), (12, x12)], [], ⟨B, H⟩⟩
@[simp] theorem u158_0 (s : St) (k : K) : Run G c158_L0 s k = Run G c158_B0 { s with E := dropE [2, 3, 10, 47, 65, 70] s.E } (.seq c158_L0 k) := w_loop _ _ s k
abbrev S158_1 (x0 x1 x4 x11 x12 : V) (B : List (Nat × List V)) (H : Hp) : St := ⟨[(0, x0), (1, x1), (4, x4), (11, x11), (12, x12)], [], ⟨B, H⟩⟩
@[simp] theorem u158_1 (s : St) (k : K) : Run G c158_L1 s k = Run G c158_B1 { s with E := dropE [47, 65] s.E } (.seq c158_L1 k) := w_loop _ _ s k
abbrev S158_2 (x0 x1 x4 x11 x12 : V) (B : List (Nat × List V)) (H : Hp) : St := ⟨[(0, x0), (1, x1), (4, x4), (11, x11), (12, x12)], [], ⟨B, H⟩⟩
@[simp] theorem u158_2 (s : St) (k : K) : Run G c158_L2 s k = Run G c158_B2 { s with E := dropE [2, 3, 10, 47, 65, 70] s.E } (.seq c158_L2 k) := w_loop _ _ s k
abbrev S159_0 (x0 x1 x4 x12 x13 : V) (B : List (Nat × List V)) (H : Hp) : St := ⟨[(0, x0), (1, x1), (4, x4), (12, x12), (13, x13)], [], ⟨B, H⟩⟩
@[simp] theorem u159_0 (s : St) (k : K) : Run G c159_L0 s k = Run G c159_B0 { s with E := dropE [2, 3, 10, 11, 47] s.E } (.seq c159_L0 k) := w_loop _ _ s k
abbrev S159_1 (x0 x1 x4 x12 x13 : V) (B : List (Nat × List V)) (H : Hp) : St := ⟨[(0, x0), (1, x1), (4, x4), (12, x12), (13, x13)], [], ⟨B, H⟩⟩
@[simp] theorem u159_1 (s : St) (k : K) : Run G c159_L1 s k = Run G c159_B1 { s with E := dropE [47, 66] s.E } (.seq c159_L1 k) := w_loop _ _ s k
abbrev S159_2 (x0 x1 x4 x12 x13 : V) (B : List (Nat × List V)) (H : Hp) : St := ⟨[(0, x0), (1, x1), (4, x4), (12, x12), (13, x13)], [], ⟨B, H⟩⟩
@[simp] theorem u159_2 (s : St) (k : K) : Run G c159_L2 s k = Run G c159_B2 { s with E := dropE [66, 71, 120, 139, 144] s.E } (.seq c159_L2 k) := w_loop _ _ s k
abbrev S159_3 (x0 x1 x4 x12 x13 : V) (B : List (Nat × List V)) (H : Hp) : St := ⟨[(0, x0), (1, x1), (4, x4), (12, x12), (13, x13)], [], ⟨B, H⟩⟩
@[simp] theorem u159_3 (s : St) (k : K) : Run G c159_L3 s k = Run G c159_B3 { s with E := dropE [120, 139] s.E } (.seq c159_L3 k) := w_loop _ _ s k
abbrev S159_4 (x0 x1 x4 x12 x13 : V) (B : List (Nat × List V)) (H : Hp) : St := ⟨[(0, x0), (1, x1), (4, x4), (12, x12), (13, x13)], [], ⟨B, H⟩⟩
@[simp] theorem u159_4 (s : St) (k : K) : Run G c159_L4 s k = Run G c159_B4 { s with E := dropE [66, 71, 120, 139, 144] s.E } (.seq c159_L4 k) := w_loop _ _ s k
abbrev S165_0 (x0 x1 x4 x5 x37 x38 : V) (B : List (Nat × List V)) (H : Hp) : St := ⟨[(0, x0), (1, x1), (4, x4), (5, x5), (37, x37), (38, x38)], [], ⟨B, H⟩⟩
@[simp] theorem u165_0 (s : St) (k : K) : Run G c165_L0 s k = Run G c165_B0 { s with E := dropE [6, 7, 17, 39, 65] s.E } (.seq c165_L0 k) := w_loop _ _ s k
abbrev S166_0 (x0 x1 x2 : V) (B : List (Nat × List V)) (H : Hp) : St := ⟨[(0, x0), (1, x1), (2, x2)], [], ⟨B, H⟩⟩
@[simp] theorem u166_0 (s : St) (k : K) : Run G c166_L0 s k = Run G c166_B0 { s with E := dropE [6, 14, 22, 26, 42, 53] s.E } (.seq c166_L0 k) := w_loop _ _ s k
abbrev S168_0 (x0 x2 x3 x4 x10 : V) (B : List (Nat × List V)) (H : Hp) : St := ⟨[(0, x0), (2, x2), (3, x3), (4, x4), (10, x10)], [], ⟨B, H⟩⟩
@[simp] theorem u168_0 (s : St) (k : K) : Run G c168_L0 s k = Run G c168_B0 { s with E := dropE [1, 11, 18, 40, 58] s.E } (.seq c168_L0 k) := w_loop _ _ s k
abbrev S175_0 (x0 x1 x4 : V) (B : List (Nat × List V)) (H : Hp) : St := ⟨[(0, x0), (1, x1), (4, x4)], [], ⟨B, H⟩⟩
@[simp] theorem u175_0 (s : St) (k : K) : Run G c175_L0 s k = Run G c175_B0 { s with E := dropE [5, 6, 7, 8, 9, 10, 11, 20] s.E } (.seq c175_L0 k) := w_loop _ _ s k
abbrev S176_0 (x0 x1 x3 x4 x10 x11 x12 x13 x14 x15 x16 : V) (B : List (Nat × List V)) (H : Hp) : St := ⟨[(0, x0), (1, x1), (3, x3), (4, x4), (10, x10), (11, x11), (12, x12), (13, x13), (14, x14), (15, x15), (16, x16)], [], ⟨B, H⟩⟩
@[simp] theorem u176_0 (s : St) (k : K) : Run G c176_L0 s k = Run G c176_B0 { s with E := dropE [2, 28, 30, 34, 46] s.E } (.seq c176_L0 k) := w_loop _ _ s k
abbrev S176_1 (x0 x1 x3 x4 x10 x11 x12 x13 x17 : V) (B : List (Nat × List V)) (H : Hp) : St := ⟨[(0, x0), (1, x1), (3, x3), (4, x4), (10, x10), (11, x11), (12, x12), (13, x13), (17, x17)], [], ⟨B, H⟩⟩
@[simp] theorem u176_1 (s : St) (k : K) : Run G c176_L1 s k = Run G c176_B1 { s with E := dropE [2, 18, 28, 30, 34, 68] s.E } (.seq c176_L1 k) := w_loop _ _ s k
end Go.Mx.Tryz
