/- The loops of this seat, one round at a time. -/
import Derived.Test.YtchacpbmpgfblaaGreatDoorSeat
namespace Go.Mx.Tryz
abbrev S8_0 (x0 x6 x7 x8 : V) (B : List (Nat × List V)) (H : Hp) : St := ⟨[(0, x0), (6, x6), (7, x7), (8, x8)], [], ⟨B, H⟩⟩
@[simp] theorem u8_0 (s : St) (k : K) : Run G c8_L0 s k = Run G c8_B0 { s with E := dropE [1, 4, 5, 9, 12, 14, 22, 34] s.E } (.seq c8_L0 k) := w_loop _ _ s k
abbrev S10_0 (x0 x1 x12 x13 : V) (B : List (Nat × List V)) (H : Hp) : St := ⟨[(0, x0), (1, x1), (12, x12), (13, x13)], [], ⟨B, H⟩⟩
@[simp] theorem u10_0 (s : St) (k : K) : Run G c10_L0 s k = Run G c10_B0 { s with E := dropE [4, 5, 10, 14, 24] s.E } (.seq c10_L0 k) := w_loop _ _ s k
abbrev S12_0 (x0 x3 x4 : V) (B : List (Nat × List V)) (H : Hp) : St := ⟨[(0, x0), (3, x3), (4, x4)], [], ⟨B, H⟩⟩
@[simp] theorem u12_0 (s : St) (k : K) : Run G c12_L0 s k = Run G c12_B0 { s with E := dropE [2, 11, 13, 21] s.E } (.seq c12_L0 k) := w_loop _ _ s k
abbrev S18_0 (x0 x8 x9 x10 : V) (B : List (Nat × List V)) (H : Hp) : St := ⟨[(0, x0), (8, x8), (9, x9), (10, x10)], [], ⟨B, H⟩⟩
@[simp] theorem u18_0 (s : St) (k : K) : Run G c18_L0 s k = Run G c18_B0 { s with E := dropE [2, 3, 4, 7, 11, 42] s.E } (.seq c18_L0 k) := w_loop _ _ s k
abbrev S20_0 (x3 x5 x24 x25 x26 : V) (B : List (Nat × List V)) (H : Hp) : St := ⟨[(3, x3), (5, x5), (24, x24), (25, x25), (26, x26)], [], ⟨B, H⟩⟩
@[simp] theorem u20_0 (s : St) (k : K) : Run G c20_L0 s k = Run G c20_B0 { s with E := dropE [0, 2, 4, 7, 19, 27] s.E } (.seq c20_L0 k) := w_loop _ _ s k
abbrev S22_0 (x3 x14 x15 x16 : V) (B : List (Nat × List V)) (H : Hp) : St := ⟨[(3, x3), (14, x14), (15, x15), (16, x16)], [], ⟨B, H⟩⟩
@[simp] theorem u22_0 (s : St) (k : K) : Run G c22_L0 s k = Run G c22_B0 { s with E := dropE [0, 2, 5, 17] s.E } (.seq c22_L0 k) := w_loop _ _ s k
abbrev S22_1 (x3 x6 x7 x25 x28 : V) (B : List (Nat × List V)) (H : Hp) : St := ⟨[(3, x3), (6, x6), (7, x7), (25, x25), (28, x28)], [], ⟨B, H⟩⟩
@[simp] theorem u22_1 (s : St) (k : K) : Run G c22_L1 s k = Run G c22_B1 { s with E := dropE [8, 9, 26, 29, 47] s.E } (.seq c22_L1 k) := w_loop _ _ s k
abbrev S22_2 (x3 x6 x25 : V) (B : List (Nat × List V)) (H : Hp) : St := ⟨[(3, x3), (6, x6), (25, x25)], [], ⟨B, H⟩⟩
@[simp] theorem u22_2 (s : St) (k : K) : Run G c22_L2 s k = Run G c22_B2 { s with E := dropE [7, 24, 28, 29] s.E } (.seq c22_L2 k) := w_loop _ _ s k
abbrev S22_3 (x3 x6 : V) (B : List (Nat × List V)) (H : Hp) : St := ⟨[(3, x3), (6, x6)], [], ⟨B, H⟩⟩
@[simp] theorem u22_3 (s : St) (k : K) : Run G c22_L3 s k = Run G c22_B3 { s with E := dropE [14, 15, 16, 17, 25, 26] s.E } (.seq c22_L3 k) := w_loop _ _ s k
abbrev S22_4 (x10 x52 x53 : V) (B : List (Nat × List V)) (H : Hp) : St := ⟨[(10, x10), (52, x52), (53, x53)], [], ⟨B, H⟩⟩
@[simp] theorem u22_4 (s : St) (k : K) : Run G c22_L4 s k = Run G c22_B4 { s with E := dropE [3, 6, 11, 12, 24, 54, 57] s.E } (.seq c22_L4 k) := w_loop _ _ s k
abbrev S24_0 (x0 x3 : V) (B : List (Nat × List V)) (H : Hp) : St := ⟨[(0, x0), (3, x3)], [], ⟨B, H⟩⟩
@[simp] theorem u24_0 (s : St) (k : K) : Run G c24_L0 s k = Run G c24_B0 { s with E := dropE [2, 7, 54] s.E } (.seq c24_L0 k) := w_loop _ _ s k
abbrev S26_0 (x0 x3 x4 : V) (B : List (Nat × List V)) (H : Hp) : St := ⟨[(0, x0), (3, x3), (4, x4)], [], ⟨B, H⟩⟩
@[simp] theorem u26_0 (s : St) (k : K) : Run G c26_L0 s k = Run G c26_B0 { s with E := dropE [2, 15, 25] s.E } (.seq c26_L0 k) := w_loop _ _ s k
abbrev S26_1 (x3 x5 x6 x7 : V) (B : List (Nat × List V)) (H : Hp) : St := ⟨[(3, x3), (5, x5), (6, x6), (7, x7)], [], ⟨B, H⟩⟩
@[simp] theorem u26_1 (s : St) (k : K) : Run G c26_L1 s k = Run G c26_B1 { s with E := dropE [8, 42, 52, 67] s.E } (.seq c26_L1 k) := w_loop _ _ s k
abbrev S26_2 (x3 x5 x6 : V) (B : List (Nat × List V)) (H : Hp) : St := ⟨[(3, x3), (5, x5), (6, x6)], [], ⟨B, H⟩⟩
@[simp] theorem u26_2 (s : St) (k : K) : Run G c26_L2 s k = Run G c26_B2 { s with E := dropE [7, 34, 52] s.E } (.seq c26_L2 k) := w_loop _ _ s k
abbrev S26_3 (x3 x5 : V) (B : List (Nat × List V)) (H : Hp) : St := ⟨[(3, x3), (5, x5)], [], ⟨B, H⟩⟩
@[simp] theorem u26_3 (s : St) (k : K) : Run G c26_L3 s k = Run G c26_B3 { s with E := dropE [0, 4, 6, 15, 42] s.E } (.seq c26_L3 k) := w_loop _ _ s k
abbrev S26_4 (x3 x9 x10 : V) (B : List (Nat × List V)) (H : Hp) : St := ⟨[(3, x3), (9, x9), (10, x10)], [], ⟨B, H⟩⟩
@[simp] theorem u26_4 (s : St) (k : K) : Run G c26_L4 s k = Run G c26_B4 { s with E := dropE [5, 34, 73, 78] s.E } (.seq c26_L4 k) := w_loop _ _ s k
abbrev S27_0 (x0 x1 x5 x6 x7 x8 : V) (B : List (Nat × List V)) (H : Hp) : St := ⟨[(0, x0), (1, x1), (5, x5), (6, x6), (7, x7), (8, x8)], [], ⟨B, H⟩⟩
@[simp] theorem u27_0 (s : St) (k : K) : Run G c27_L0 s k = Run G c27_B0 { s with E := dropE [4, 9, 16, 39, 49] s.E } (.seq c27_L0 k) := w_loop _ _ s k
abbrev S27_1 (x5 x6 x7 x10 : V) (B : List (Nat × List V)) (H : Hp) : St := ⟨[(5, x5), (6, x6), (7, x7), (10, x10)], [], ⟨B, H⟩⟩
@[simp] theorem u27_1 (s : St) (k : K) : Run G c27_L1 s k = Run G c27_B1 { s with E := dropE [0, 1, 8, 16, 68] s.E } (.seq c27_L1 k) := w_loop _ _ s k
abbrev S28_0 (x0 x1 x5 : V) (B : List (Nat × List V)) (H : Hp) : St := ⟨[(0, x0), (1, x1), (5, x5)], [], ⟨B, H⟩⟩
@[simp] theorem u28_0 (s : St) (k : K) : Run G c28_L0 s k = Run G c28_B0 { s with E := dropE [4, 15, 28, 50, 72] s.E } (.seq c28_L0 k) := w_loop _ _ s k
abbrev S30_0 (x3 x6 x7 x8 x12 x13 x14 : V) (B : List (Nat × List V)) (H : Hp) : St := ⟨[(3, x3), (6, x6), (7, x7), (8, x8), (12, x12), (13, x13), (14, x14)], [], ⟨B, H⟩⟩
@[simp] theorem u30_0 (s : St) (k : K) : Run G c30_L0 s k = Run G c30_B0 { s with E := dropE [0, 2, 4, 5, 10, 15, 21, 33] s.E } (.seq c30_L0 k) := w_loop _ _ s k
abbrev S31_0 (x0 x4 x5 x6 x7 x11 x12 x14 x15 : V) (B : List (Nat × List V)) (H : Hp) : St := ⟨[(0, x0), (4, x4), (5, x5), (6, x6), (7, x7), (11, x11), (12, x12), (14, x14), (15, x15)], [], ⟨B, H⟩⟩
@[simp] theorem u31_0 (s : St) (k : K) : Run G c31_L0 s k = Run G c31_B0 { s with E := dropE [8, 9, 10, 16, 26, 40, 42, 49, 64, 70] s.E } (.seq c31_L0 k) := w_loop _ _ s k
abbrev S31_1 (x0 x4 x5 x6 x7 x8 x14 x15 : V) (B : List (Nat × List V)) (H : Hp) : St := ⟨[(0, x0), (4, x4), (5, x5), (6, x6), (7, x7), (8, x8), (14, x14), (15, x15)], [], ⟨B, H⟩⟩
@[simp] theorem u31_1 (s : St) (k : K) : Run G c31_L1 s k = Run G c31_B1 { s with E := dropE [2, 3, 9, 10, 11, 12, 16, 26, 36, 40, 42, 49, 64, 83] s.E } (.seq c31_L1 k) := w_loop _ _ s k
abbrev S32_0 (x4 x8 x9 x10 : V) (B : List (Nat × List V)) (H : Hp) : St := ⟨[(4, x4), (8, x8), (9, x9), (10, x10)], [], ⟨B, H⟩⟩
@[simp] theorem u32_0 (s : St) (k : K) : Run G c32_L0 s k = Run G c32_B0 { s with E := dropE [0, 2, 3, 6, 11, 14, 19, 28] s.E } (.seq c32_L0 k) := w_loop _ _ s k
abbrev S32_1 (x4 x7 : V) (B : List (Nat × List V)) (H : Hp) : St := ⟨[(4, x4), (7, x7)], [], ⟨B, H⟩⟩
@[simp] theorem u32_1 (s : St) (k : K) : Run G c32_L1 s k = Run G c32_B1 { s with E := dropE [8, 9, 10, 11, 42, 56] s.E } (.seq c32_L1 k) := w_loop _ _ s k
abbrev S37_0 (x0 x2 x4 x5 x26 x27 x28 : V) (B : List (Nat × List V)) (H : Hp) : St := ⟨[(0, x0), (2, x2), (4, x4), (5, x5), (26, x26), (27, x27), (28, x28)], [], ⟨B, H⟩⟩
@[simp] theorem u37_0 (s : St) (k : K) : Run G c37_L0 s k = Run G c37_B0 { s with E := dropE [3, 7, 16, 29] s.E } (.seq c37_L0 k) := w_loop _ _ s k
abbrev S38_0 (x0 x2 x6 x7 x8 : V) (B : List (Nat × List V)) (H : Hp) : St := ⟨[(0, x0), (2, x2), (6, x6), (7, x7), (8, x8)], [], ⟨B, H⟩⟩
@[simp] theorem u38_0 (s : St) (k : K) : Run G c38_L0 s k = Run G c38_B0 { s with E := dropE [1, 5, 9, 18] s.E } (.seq c38_L0 k) := w_loop _ _ s k
abbrev S41_0 (x0 x1 x2 x11 x12 x13 : V) (B : List (Nat × List V)) (H : Hp) : St := ⟨[(0, x0), (1, x1), (2, x2), (11, x11), (12, x12), (13, x13)], [], ⟨B, H⟩⟩
@[simp] theorem u41_0 (s : St) (k : K) : Run G c41_L0 s k = Run G c41_B0 { s with E := dropE [6, 7, 8, 9, 10, 14, 21, 31] s.E } (.seq c41_L0 k) := w_loop _ _ s k
abbrev S45_0 (x0 x2 x4 x5 x6 x7 x8 : V) (B : List (Nat × List V)) (H : Hp) : St := ⟨[(0, x0), (2, x2), (4, x4), (5, x5), (6, x6), (7, x7), (8, x8)], [], ⟨B, H⟩⟩
@[simp] theorem u45_0 (s : St) (k : K) : Run G c45_L0 s k = Run G c45_B0 { s with E := dropE [3, 16, 37] s.E } (.seq c45_L0 k) := w_loop _ _ s k
abbrev S46_0 (x0 x1 x5 : V) (B : List (Nat × List V)) (H : Hp) : St := ⟨[(0, x0), (1, x1), (5, x5)], [], ⟨B, H⟩⟩
@[simp] theorem u46_0 (s : St) (k : K) : Run G c46_L0 s k = Run G c46_B0 { s with E := dropE [4, 9, 17] s.E } (.seq c46_L0 k) := w_loop _ _ s k
abbrev S49_0 (x0 x3 x4 x5 : V) (B : List (Nat × List V)) (H : Hp) : St := ⟨[(0, x0), (3, x3), (4, x4), (5, x5)], [], ⟨B, H⟩⟩
@[simp] theorem u49_0 (s : St) (k : K) : Run G c49_L0 s k = Run G c49_B0 { s with E := dropE [1, 9, 20] s.E } (.seq c49_L0 k) := w_loop _ _ s k
abbrev S50_0 (x0 x4 x5 : V) (B : List (Nat × List V)) (H : Hp) : St := ⟨[(0, x0), (4, x4), (5, x5)], [], ⟨B, H⟩⟩
@[simp] theorem u50_0 (s : St) (k : K) : Run G c50_L0 s k = Run G c50_B0 { s with E := dropE [2, 3, 11, 25, 39] s.E } (.seq c50_L0 k) := w_loop _ _ s k
abbrev S50_1 (x0 x4 x6 : V) (B : List (Nat × List V)) (H : Hp) : St := ⟨[(0, x0), (4, x4), (6, x6)], [], ⟨B, H⟩⟩
@[simp] theorem u50_1 (s : St) (k : K) : Run G c50_L1 s k = Run G c50_B1 { s with E := dropE [5, 11, 43, 51] s.E } (.seq c50_L1 k) := w_loop _ _ s k
abbrev S50_2 (x4 x7 : V) (B : List (Nat × List V)) (H : Hp) : St := ⟨[(4, x4), (7, x7)], [], ⟨B, H⟩⟩
@[simp] theorem u50_2 (s : St) (k : K) : Run G c50_L2 s k = Run G c50_B2 { s with E := dropE [0, 6, 43, 61, 74] s.E } (.seq c50_L2 k) := w_loop _ _ s k
abbrev S52_0 (x0 x1 x12 x13 : V) (B : List (Nat × List V)) (H : Hp) : St := ⟨[(0, x0), (1, x1), (12, x12), (13, x13)], [], ⟨B, H⟩⟩
@[simp] theorem u52_0 (s : St) (k : K) : Run G c52_L0 s k = Run G c52_B0 { s with E := dropE [4, 5, 10, 14, 24] s.E } (.seq c52_L0 k) := w_loop _ _ s k
abbrev S61_0 (x0 x6 x16 x17 x18 : V) (B : List (Nat × List V)) (H : Hp) : St := ⟨[(0, x0), (6, x6), (16, x16), (17, x17), (18, x18)], [], ⟨B, H⟩⟩
@[simp] theorem u61_0 (s : St) (k : K) : Run G c61_L0 s k = Run G c61_B0 { s with E := dropE [1, 4, 5, 8, 9, 12, 19] s.E } (.seq c61_L0 k) := w_loop _ _ s k
abbrev S63_0 (x0 x3 x7 x8 : V) (B : List (Nat × List V)) (H : Hp) : St := ⟨[(0, x0), (3, x3), (7, x7), (8, x8)], [], ⟨B, H⟩⟩
@[simp] theorem u63_0 (s : St) (k : K) : Run G c63_L0 s k = Run G c63_B0 { s with E := dropE [1, 4, 5, 9, 16] s.E } (.seq c63_L0 k) := w_loop _ _ s k
abbrev S64_0 (x3 x6 x7 x8 : V) (B : List (Nat × List V)) (H : Hp) : St := ⟨[(3, x3), (6, x6), (7, x7), (8, x8)], [], ⟨B, H⟩⟩
@[simp] theorem u64_0 (s : St) (k : K) : Run G c64_L0 s k = Run G c64_B0 { s with E := dropE [0, 2, 5, 9, 14] s.E } (.seq c64_L0 k) := w_loop _ _ s k
abbrev S66_0 (x1 x3 : V) (B : List (Nat × List V)) (H : Hp) : St := ⟨[(1, x1), (3, x3)], [], ⟨B, H⟩⟩
@[simp] theorem u66_0 (s : St) (k : K) : Run G c66_L0 s k = Run G c66_B0 { s with E := dropE [0, 2, 5, 12] s.E } (.seq c66_L0 k) := w_loop _ _ s k
abbrev S67_0 (x0 x3 x5 x6 x7 : V) (B : List (Nat × List V)) (H : Hp) : St := ⟨[(0, x0), (3, x3), (5, x5), (6, x6), (7, x7)], [], ⟨B, H⟩⟩
@[simp] theorem u67_0 (s : St) (k : K) : Run G c67_L0 s k = Run G c67_B0 { s with E := dropE [1, 4, 11, 23] s.E } (.seq c67_L0 k) := w_loop _ _ s k
abbrev S71_0 (x0 x1 x2 x3 x4 x10 x11 : V) (B : List (Nat × List V)) (H : Hp) : St := ⟨[(0, x0), (1, x1), (2, x2), (3, x3), (4, x4), (10, x10), (11, x11)], [], ⟨B, H⟩⟩
@[simp] theorem u71_0 (s : St) (k : K) : Run G c71_L0 s k = Run G c71_B0 { s with E := dropE [12, 13, 14, 15, 16, 17, 18, 19, 20, 25, 32, 39, 56, 75, 80, 97, 125] s.E } (.seq c71_L0 k) := w_loop _ _ s k
abbrev S78_0 (x0 x1 x2 x3 x8 x9 : V) (B : List (Nat × List V)) (H : Hp) : St := ⟨[(0, x0), (1, x1), (2, x2), (3, x3), (8, x8), (9, x9)], [], ⟨B, H⟩⟩
@[simp] theorem u78_0 (s : St) (k : K) : Run G c78_L0 s k = Run G c78_B0 { s with E := dropE [14, 34] s.E } (.seq c78_L0 k) := w_loop _ _ s k
abbrev S78_1 (x0 x1 x2 x3 x8 : V) (B : List (Nat × List V)) (H : Hp) : St := ⟨[(0, x0), (1, x1), (2, x2), (3, x3), (8, x8)], [], ⟨B, H⟩⟩
@[simp] theorem u78_1 (s : St) (k : K) : Run G c78_L1 s k = Run G c78_B1 { s with E := dropE [9, 34] s.E } (.seq c78_L1 k) := w_loop _ _ s k
abbrev S79_0 (x0 x3 x8 x9 x10 x11 : V) (B : List (Nat × List V)) (H : Hp) : St := ⟨[(0, x0), (3, x3), (8, x8), (9, x9), (10, x10), (11, x11)], [], ⟨B, H⟩⟩
@[simp] theorem u79_0 (s : St) (k : K) : Run G c79_L0 s k = Run G c79_B0 { s with E := dropE [1, 2, 21] s.E } (.seq c79_L0 k) := w_loop _ _ s k
abbrev S79_1 (x0 x3 x8 x9 x12 : V) (B : List (Nat × List V)) (H : Hp) : St := ⟨[(0, x0), (3, x3), (8, x8), (9, x9), (12, x12)], [], ⟨B, H⟩⟩
@[simp] theorem u79_1 (s : St) (k : K) : Run G c79_L1 s k = Run G c79_B1 { s with E := dropE [10, 11, 21, 33] s.E } (.seq c79_L1 k) := w_loop _ _ s k
abbrev S80_0 (x0 x1 x8 x9 x10 x11 : V) (B : List (Nat × List V)) (H : Hp) : St := ⟨[(0, x0), (1, x1), (8, x8), (9, x9), (10, x10), (11, x11)], [], ⟨B, H⟩⟩
@[simp] theorem u80_0 (s : St) (k : K) : Run G c80_L0 s k = Run G c80_B0 { s with E := dropE [2, 3, 12, 17, 35, 45] s.E } (.seq c80_L0 k) := w_loop _ _ s k
abbrev S82_0 (x0 x8 x9 : V) (B : List (Nat × List V)) (H : Hp) : St := ⟨[(0, x0), (8, x8), (9, x9)], [], ⟨B, H⟩⟩
@[simp] theorem u82_0 (s : St) (k : K) : Run G c82_L0 s k = Run G c82_B0 { s with E := dropE [1, 2, 3, 15] s.E } (.seq c82_L0 k) := w_loop _ _ s k
abbrev S83_0 (x0 x1 x2 x3 x9 x10 : V) (B : List (Nat × List V)) (H : Hp) : St := ⟨[(0, x0), (1, x1), (2, x2), (3, x3), (9, x9), (10, x10)], [], ⟨B, H⟩⟩
@[simp] theorem u83_0 (s : St) (k : K) : Run G c83_L0 s k = Run G c83_B0 { s with E := dropE [16, 36] s.E } (.seq c83_L0 k) := w_loop _ _ s k
abbrev S83_1 (x0 x1 x2 x3 x9 x10 x11 : V) (B : List (Nat × List V)) (H : Hp) : St := ⟨[(0, x0), (1, x1), (2, x2), (3, x3), (9, x9), (10, x10), (11, x11)], [], ⟨B, H⟩⟩
@[simp] theorem u83_1 (s : St) (k : K) : Run G c83_L1 s k = Run G c83_B1 { s with E := dropE [36, 41, 45, 65, 69, 84] s.E } (.seq c83_L1 k) := w_loop _ _ s k
abbrev S83_2 (x0 x1 x2 x3 x9 x10 x12 : V) (B : List (Nat × List V)) (H : Hp) : St := ⟨[(0, x0), (1, x1), (2, x2), (3, x3), (9, x9), (10, x10), (12, x12)], [], ⟨B, H⟩⟩
@[simp] theorem u83_2 (s : St) (k : K) : Run G c83_L2 s k = Run G c83_B2 { s with E := dropE [11, 36, 41, 45, 65, 69, 84, 104, 109, 124] s.E } (.seq c83_L2 k) := w_loop _ _ s k
abbrev S83_3 (x0 x1 x2 x3 x9 x10 : V) (B : List (Nat × List V)) (H : Hp) : St := ⟨[(0, x0), (1, x1), (2, x2), (3, x3), (9, x9), (10, x10)], [], ⟨B, H⟩⟩
@[simp] theorem u83_3 (s : St) (k : K) : Run G c83_L3 s k = Run G c83_B3 { s with E := dropE [8, 11, 12, 36, 41, 45, 65, 69, 84, 104, 109, 124] s.E } (.seq c83_L3 k) := w_loop _ _ s k
abbrev S84_0 (x0 x1 x4 x11 x12 : V) (B : List (Nat × List V)) (H : Hp) : St := ⟨[(0, x0), (1, x1), (4, x4), (11, x11), (12, x12)], [], ⟨B, H⟩⟩
@[simp] theorem u84_0 (s : St) (k : K) : Run G c84_L0 s k = Run G c84_B0 { s with E := dropE [2, 3, 10, 47, 65, 70] s.E } (.seq c84_L0 k) := w_loop _ _ s k
abbrev S84_1 (x0 x1 x4 x11 x12 : V) (B : List (Nat × List V)) (H : Hp) : St := ⟨[(0, x0), (1, x1), (4, x4), (11, x11), (12, x12)], [], ⟨B, H⟩⟩
@[simp] theorem u84_1 (s : St) (k : K) : Run G c84_L1 s k = Run G c84_B1 { s with E := dropE [47, 65] s.E } (.seq c84_L1 k) := w_loop _ _ s k
abbrev S84_2 (x0 x1 x4 x11 x12 : V) (B : List (Nat × List V)) (H : Hp) : St := ⟨[(0, x0), (1, x1), (4, x4), (11, x11), (12, x12)], [], ⟨B, H⟩⟩
@[simp] theorem u84_2 (s : St) (k : K) : Run G c84_L2 s k = Run G c84_B2 { s with E := dropE [2, 3, 10, 47, 65, 70] s.E } (.seq c84_L2 k) := w_loop _ _ s k
abbrev S85_0 (x0 x1 x4 x12 x13 : V) (B : List (Nat × List V)) (H : Hp) : St := ⟨[(0, x0), (1, x1), (4, x4), (12, x12), (13, x13)], [], ⟨B, H⟩⟩
@[simp] theorem u85_0 (s : St) (k : K) : Run G c85_L0 s k = Run G c85_B0 { s with E := dropE [2, 3, 10, 11, 47] s.E } (.seq c85_L0 k) := w_loop _ _ s k
abbrev S85_1 (x0 x1 x4 x12 x13 : V) (B : List (Nat × List V)) (H : Hp) : St := ⟨[(0, x0), (1, x1), (4, x4), (12, x12), (13, x13)], [], ⟨B, H⟩⟩
@[simp] theorem u85_1 (s : St) (k : K) : Run G c85_L1 s k = Run G c85_B1 { s with E := dropE [47, 66] s.E } (.seq c85_L1 k) := w_loop _ _ s k
abbrev S85_2 (x0 x1 x4 x12 x13 : V) (B : List (Nat × List V)) (H : Hp) : St := ⟨[(0, x0), (1, x1), (4, x4), (12, x12), (13, x13)], [], ⟨B, H⟩⟩
@[simp] theorem u85_2 (s : St) (k : K) : Run G c85_L2 s k = Run G c85_B2 { s with E := dropE [66, 71, 120, 139, 144] s.E } (.seq c85_L2 k) := w_loop _ _ s k
abbrev S85_3 (x0 x1 x4 x12 x13 : V) (B : List (Nat × List V)) (H : Hp) : St := ⟨[(0, x0), (1, x1), (4, x4), (12, x12), (13, x13)], [], ⟨B, H⟩⟩
@[simp] theorem u85_3 (s : St) (k : K) : Run G c85_L3 s k = Run G c85_B3 { s with E := dropE [120, 139] s.E } (.seq c85_L3 k) := w_loop _ _ s k
abbrev S85_4 (x0 x1 x4 x12 x13 : V) (B : List (Nat × List V)) (H : Hp) : St := ⟨[(0, x0), (1, x1), (4, x4), (12, x12), (13, x13)], [], ⟨B, H⟩⟩
@[simp] theorem u85_4 (s : St) (k : K) : Run G c85_L4 s k = Run G c85_B4 { s with E := dropE [66, 71, 120, 139, 144] s.E } (.seq c85_L4 k) := w_loop _ _ s k
abbrev S90_0 (x0 x1 x4 : V) (B : List (Nat × List V)) (H : Hp) : St := ⟨[(0, x0), (1, x1), (4, x4)], [], ⟨B, H⟩⟩
@[simp] theorem u90_0 (s : St) (k : K) : Run G c90_L0 s k = Run G c90_B0 { s with E := dropE [5, 6, 7, 8, 9, 10, 11, 20] s.E } (.seq c90_L0 k) := w_loop _ _ s k
abbrev S92_0 (x0 x2 x3 x4 x10 : V) (B : List (Nat × List V)) (H : Hp) : St := ⟨[(0, x0), (2, x2), (3, x3), (4, x4), (10, x10)], [], ⟨B, H⟩⟩
@[simp] theorem u92_0 (s : St) (k : K) : Run G c92_L0 s k = Run G c92_B0 { s with E := dropE [1, 11, 18, 40, 58] s.E } (.seq c92_L0 k) := w_loop _ _ s k
end Go.Mx.Tryz
