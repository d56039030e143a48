/- The loops of this seat, one round at a time. -/
import Derived.Test.YtfllcbohggcmfaaGreatDoorSeat
namespace Go.Mx.Tryz
abbrev S4_0 (x0 x1 x5 : V) (B : List (Nat × List V)) (H : Hp) : St := ⟨[(0, x0), (1, x1), (5, x5)], [], ⟨B, H⟩⟩
@[simp] theorem u4_0 (s : St) (k : K) : Run G c4_L0 s k = Run G c4_B0 { s with E := dropE [4, 22, 26] s.E } (.seq c4_L0 k) := w_loop _ _ s k
abbrev S4_1 (x9 x10 x11 : V) (B : List (Nat × List V)) (H : Hp) : St := ⟨[(9, x9), (10, x10), (11, x11)], [], ⟨B, H⟩⟩
@[simp] theorem u4_1 (s : St) (k : K) : Run G c4_L1 s k = Run G c4_B1 { s with E := dropE [0, 1, 5, 6, 7, 8, 26, 48, 56] s.E } (.seq c4_L1 k) := w_loop _ _ s k
abbrev S14_0 (x4 x11 x12 x13 : V) (B : List (Nat × List V)) (H : Hp) : St := ⟨[(4, x4), (11, x11), (12, x12), (13, x13)], [], ⟨B, H⟩⟩
@[simp] theorem u14_0 (s : St) (k : K) : Run G c14_L0 s k = Run G c14_B0 { s with E := dropE [0, 2, 3, 6, 9, 14, 28] s.E } (.seq c14_L0 k) := w_loop _ _ s k
abbrev S20_0 (x2 x5 x23 x24 x25 : V) (B : List (Nat × List V)) (H : Hp) : St := ⟨[(2, x2), (5, x5), (23, x23), (24, x24), (25, x25)], [], ⟨B, H⟩⟩
@[simp] theorem u20_0 (s : St) (k : K) : Run G c20_L0 s k = Run G c20_B0 { s with E := dropE [0, 3, 4, 6, 7, 8, 9, 20, 26, 36] s.E } (.seq c20_L0 k) := w_loop _ _ s k
abbrev S21_0 (x4 x8 x9 x10 : V) (B : List (Nat × List V)) (H : Hp) : St := ⟨[(4, x4), (8, x8), (9, x9), (10, x10)], [], ⟨B, H⟩⟩
@[simp] theorem u21_0 (s : St) (k : K) : Run G c21_L0 s k = Run G c21_B0 { s with E := dropE [0, 2, 3, 6, 11, 14, 19, 28] s.E } (.seq c21_L0 k) := w_loop _ _ s k
abbrev S21_1 (x4 x7 : V) (B : List (Nat × List V)) (H : Hp) : St := ⟨[(4, x4), (7, x7)], [], ⟨B, H⟩⟩
@[simp] theorem u21_1 (s : St) (k : K) : Run G c21_L1 s k = Run G c21_B1 { s with E := dropE [8, 9, 10, 11, 42, 56] s.E } (.seq c21_L1 k) := w_loop _ _ s k
abbrev S26_0 (x0 x1 x5 : V) (B : List (Nat × List V)) (H : Hp) : St := ⟨[(0, x0), (1, x1), (5, x5)], [], ⟨B, H⟩⟩
@[simp] theorem u26_0 (s : St) (k : K) : Run G c26_L0 s k = Run G c26_B0 { s with E := dropE [4, 15, 28, 50, 72] s.E } (.seq c26_L0 k) := w_loop _ _ s k
abbrev S27_0 (x0 x8 x9 x10 : V) (B : List (Nat × List V)) (H : Hp) : St := ⟨[(0, x0), (8, x8), (9, x9), (10, x10)], [], ⟨B, H⟩⟩
@[simp] theorem u27_0 (s : St) (k : K) : Run G c27_L0 s k = Run G c27_B0 { s with E := dropE [2, 3, 4, 7, 11, 42] s.E } (.seq c27_L0 k) := w_loop _ _ s k
abbrev S39_0 (x0 x1 x3 : V) (B : List (Nat × List V)) (H : Hp) : St := ⟨[(0, x0), (1, x1), (3, x3)], [], ⟨B, H⟩⟩
@[simp] theorem u39_0 (s : St) (k : K) : Run G c39_L0 s k = Run G c39_B0 { s with E := dropE [4, 5, 8, 21] s.E } (.seq c39_L0 k) := w_loop _ _ s k
abbrev S55_0 (x0 x1 x2 x3 x9 x10 : V) (B : List (Nat × List V)) (H : Hp) : St := ⟨[(0, x0), (1, x1), (2, x2), (3, x3), (9, x9), (10, x10)], [], ⟨B, H⟩⟩
@[simp] theorem u55_0 (s : St) (k : K) : Run G c55_L0 s k = Run G c55_B0 { s with E := dropE [8, 11, 13, 15, 20, 36, 41] s.E } (.seq c55_L0 k) := w_loop _ _ s k
abbrev S58_0 (x0 x1 x2 x3 x4 x10 x11 : V) (B : List (Nat × List V)) (H : Hp) : St := ⟨[(0, x0), (1, x1), (2, x2), (3, x3), (4, x4), (10, x10), (11, x11)], [], ⟨B, H⟩⟩
@[simp] theorem u58_0 (s : St) (k : K) : Run G c58_L0 s k = Run G c58_B0 { s with E := dropE [12, 13, 14, 15, 16, 17, 18, 19, 20, 25, 32, 39, 56, 75, 80, 97, 125] s.E } (.seq c58_L0 k) := w_loop _ _ s k
abbrev S63_0 (x0 x1 x5 x6 x7 x8 x9 x10 : V) (B : List (Nat × List V)) (H : Hp) : St := ⟨[(0, x0), (1, x1), (5, x5), (6, x6), (7, x7), (8, x8), (9, x9), (10, x10)], [], ⟨B, H⟩⟩
@[simp] theorem u63_0 (s : St) (k : K) : Run G c63_L0 s k = Run G c63_B0 { s with E := dropE [4, 11, 16, 24, 31, 36, 59, 64, 73, 93, 107, 132] s.E } (.seq c63_L0 k) := w_loop _ _ s k
abbrev S65_0 (x0 x1 : V) (B : List (Nat × List V)) (H : Hp) : St := ⟨[(0, x0), (1, x1)], [], ⟨B, H⟩⟩
@[simp] theorem u65_0 (s : St) (k : K) : Run G c65_L0 s k = Run G c65_B0 { s with E := dropE [4, 13] s.E } (.seq c65_L0 k) := w_loop _ _ s k
abbrev S66_0 (x0 x1 : V) (B : List (Nat × List V)) (H : Hp) : St := ⟨[(0, x0), (1, x1)], [], ⟨B, H⟩⟩
@[simp] theorem u66_0 (s : St) (k : K) : Run G c66_L0 s k = Run G c66_B0 { s with E := dropE [4, 16] s.E } (.seq c66_L0 k) := w_loop _ _ s k
abbrev S67_0 (x0 x2 x4 : V) (B : List (Nat × List V)) (H : Hp) : St := ⟨[(0, x0), (2, x2), (4, x4)], [], ⟨B, H⟩⟩
@[simp] theorem u67_0 (s : St) (k : K) : Run G c67_L0 s k = Run G c67_B0 { s with E := dropE [3, 5, 9, 16] s.E } (.seq c67_L0 k) := w_loop _ _ s k
abbrev S68_0 (x0 x1 : V) (B : List (Nat × List V)) (H : Hp) : St := ⟨[(0, x0), (1, x1)], [], ⟨B, H⟩⟩
@[simp] theorem u68_0 (s : St) (k : K) : Run G c68_L0 s k = Run G c68_B0 { s with E := dropE [4, 7, 12] s.E } (.seq c68_L0 k) := w_loop _ _ s k
abbrev S69_0 (x0 x1 : V) (B : List (Nat × List V)) (H : Hp) : St := ⟨[(0, x0), (1, x1)], [], ⟨B, H⟩⟩
@[simp] theorem u69_0 (s : St) (k : K) : Run G c69_L0 s k = Run G c69_B0 { s with E := dropE [4, 7, 15] s.E } (.seq c69_L0 k) := w_loop _ _ s k
abbrev S70_0 (x0 x1 : V) (B : List (Nat × List V)) (H : Hp) : St := ⟨[(0, x0), (1, x1)], [], ⟨B, H⟩⟩
@[simp] theorem u70_0 (s : St) (k : K) : Run G c70_L0 s k = Run G c70_B0 { s with E := dropE [4, 5, 6, 9, 18] s.E } (.seq c70_L0 k) := w_loop _ _ s k
abbrev S71_0 (x0 x1 : V) (B : List (Nat × List V)) (H : Hp) : St := ⟨[(0, x0), (1, x1)], [], ⟨B, H⟩⟩
@[simp] theorem u71_0 (s : St) (k : K) : Run G c71_L0 s k = Run G c71_B0 { s with E := dropE [4, 5, 6, 9, 17, 26] s.E } (.seq c71_L0 k) := w_loop _ _ s k
abbrev S72_0 (x0 x1 x6 x7 : V) (B : List (Nat × List V)) (H : Hp) : St := ⟨[(0, x0), (1, x1), (6, x6), (7, x7)], [], ⟨B, H⟩⟩
@[simp] theorem u72_0 (s : St) (k : K) : Run G c72_L0 s k = Run G c72_B0 { s with E := dropE [4, 5, 9, 18, 25] s.E } (.seq c72_L0 k) := w_loop _ _ s k
abbrev S77_0 (x0 x1 x2 x3 x8 x9 : V) (B : List (Nat × List V)) (H : Hp) : St := ⟨[(0, x0), (1, x1), (2, x2), (3, x3), (8, x8), (9, x9)], [], ⟨B, H⟩⟩
@[simp] theorem u77_0 (s : St) (k : K) : Run G c77_L0 s k = Run G c77_B0 { s with E := dropE [14, 34] s.E } (.seq c77_L0 k) := w_loop _ _ s k
abbrev S77_1 (x0 x1 x2 x3 x8 : V) (B : List (Nat × List V)) (H : Hp) : St := ⟨[(0, x0), (1, x1), (2, x2), (3, x3), (8, x8)], [], ⟨B, H⟩⟩
@[simp] theorem u77_1 (s : St) (k : K) : Run G c77_L1 s k = Run G c77_B1 { s with E := dropE [9, 34] s.E } (.seq c77_L1 k) := w_loop _ _ s k
abbrev S78_0 (x0 x3 x8 x9 x10 x11 : V) (B : List (Nat × List V)) (H : Hp) : St := ⟨[(0, x0), (3, x3), (8, x8), (9, x9), (10, x10), (11, x11)], [], ⟨B, H⟩⟩
@[simp] theorem u78_0 (s : St) (k : K) : Run G c78_L0 s k = Run G c78_B0 { s with E := dropE [1, 2, 21] s.E } (.seq c78_L0 k) := w_loop _ _ s k
abbrev S78_1 (x0 x3 x8 x9 x12 : V) (B : List (Nat × List V)) (H : Hp) : St := ⟨[(0, x0), (3, x3), (8, x8), (9, x9), (12, x12)], [], ⟨B, H⟩⟩
@[simp] theorem u78_1 (s : St) (k : K) : Run G c78_L1 s k = Run G c78_B1 { s with E := dropE [10, 11, 21, 33] s.E } (.seq c78_L1 k) := w_loop _ _ s k
abbrev S79_0 (x0 x1 x8 x9 x10 x11 : V) (B : List (Nat × List V)) (H : Hp) : St := ⟨[(0, x0), (1, x1), (8, x8), (9, x9), (10, x10), (11, x11)], [], ⟨B, H⟩⟩
@[simp] theorem u79_0 (s : St) (k : K) : Run G c79_L0 s k = Run G c79_B0 { s with E := dropE [2, 3, 12, 17, 35, 45] s.E } (.seq c79_L0 k) := w_loop _ _ s k
abbrev S81_0 (x0 x8 x9 : V) (B : List (Nat × List V)) (H : Hp) : St := ⟨[(0, x0), (8, x8), (9, x9)], [], ⟨B, H⟩⟩
@[simp] theorem u81_0 (s : St) (k : K) : Run G c81_L0 s k = Run G c81_B0 { s with E := dropE [1, 2, 3, 15] s.E } (.seq c81_L0 k) := w_loop _ _ s k
abbrev S82_0 (x0 x1 x2 x3 x9 x10 : V) (B : List (Nat × List V)) (H : Hp) : St := ⟨[(0, x0), (1, x1), (2, x2), (3, x3), (9, x9), (10, x10)], [], ⟨B, H⟩⟩
@[simp] theorem u82_0 (s : St) (k : K) : Run G c82_L0 s k = Run G c82_B0 { s with E := dropE [16, 36] s.E } (.seq c82_L0 k) := w_loop _ _ s k
abbrev S82_1 (x0 x1 x2 x3 x9 x10 x11 : V) (B : List (Nat × List V)) (H : Hp) : St := ⟨[(0, x0), (1, x1), (2, x2), (3, x3), (9, x9), (10, x10), (11, x11)], [], ⟨B, H⟩⟩
@[simp] theorem u82_1 (s : St) (k : K) : Run G c82_L1 s k = Run G c82_B1 { s with E := dropE [36, 41, 45, 65, 69, 84] s.E } (.seq c82_L1 k) := w_loop _ _ s k
abbrev S82_2 (x0 x1 x2 x3 x9 x10 x12 : V) (B : List (Nat × List V)) (H : Hp) : St := ⟨[(0, x0), (1, x1), (2, x2), (3, x3), (9, x9), (10, x10), (12, x12)], [], ⟨B, H⟩⟩
@[simp] theorem u82_2 (s : St) (k : K) : Run G c82_L2 s k = Run G c82_B2 { s with E := dropE [11, 36, 41, 45, 65, 69, 84, 104, 109, 124] s.E } (.seq c82_L2 k) := w_loop _ _ s k
abbrev S82_3 (x0 x1 x2 x3 x9 x10 : V) (B : List (Nat × List V)) (H : Hp) : St := ⟨[(0, x0), (1, x1), (2, x2), (3, x3), (9, x9), (10, x10)], [], ⟨B, H⟩⟩
@[simp] theorem u82_3 (s : St) (k : K) : Run G c82_L3 s k = Run G c82_B3 { s with E := dropE [8, 11, 12, 36, 41, 45, 65, 69, 84, 104, 109, 124] s.E } (.seq c82_L3 k) := w_loop _ _ s k
abbrev S83_0 (x0 x1 x4 x11 x12 : V) (B : List (Nat × List V)) (H : Hp) : St := ⟨[(0, x0), (1, x1), (4, x4), (11, x11), (12, x12)], [], ⟨B, H⟩⟩
@[simp] theorem u83_0 (s : St) (k : K) : Run G c83_L0 s k = Run G c83_B0 { s with E := dropE [2, 3, 10, 47, 65, 70] s.E } (.seq c83_L0 k) := w_loop _ _ s k
abbrev S83_1 (x0 x1 x4 x11 x12 : V) (B : List (Nat × List V)) (H : Hp) : St := ⟨[(0, x0), (1, x1), (4, x4), (11, x11), (12, x12)], [], ⟨B, H⟩⟩
@[simp] theorem u83_1 (s : St) (k : K) : Run G c83_L1 s k = Run G c83_B1 { s with E := dropE [47, 65] s.E } (.seq c83_L1 k) := w_loop _ _ s k
abbrev S83_2 (x0 x1 x4 x11 x12 : V) (B : List (Nat × List V)) (H : Hp) : St := ⟨[(0, x0), (1, x1), (4, x4), (11, x11), (12, x12)], [], ⟨B, H⟩⟩
@[simp] theorem u83_2 (s : St) (k : K) : Run G c83_L2 s k = Run G c83_B2 { s with E := dropE [2, 3, 10, 47, 65, 70] s.E } (.seq c83_L2 k) := w_loop _ _ s k
abbrev S84_0 (x0 x1 x4 x12 x13 : V) (B : List (Nat × List V)) (H : Hp) : St := ⟨[(0, x0), (1, x1), (4, x4), (12, x12), (13, x13)], [], ⟨B, H⟩⟩
@[simp] theorem u84_0 (s : St) (k : K) : Run G c84_L0 s k = Run G c84_B0 { s with E := dropE [2, 3, 10, 11, 47] s.E } (.seq c84_L0 k) := w_loop _ _ s k
abbrev S84_1 (x0 x1 x4 x12 x13 : V) (B : List (Nat × List V)) (H : Hp) : St := ⟨[(0, x0), (1, x1), (4, x4), (12, x12), (13, x13)], [], ⟨B, H⟩⟩
@[simp] theorem u84_1 (s : St) (k : K) : Run G c84_L1 s k = Run G c84_B1 { s with E := dropE [47, 66] s.E } (.seq c84_L1 k) := w_loop _ _ s k
abbrev S84_2 (x0 x1 x4 x12 x13 : V) (B : List (Nat × List V)) (H : Hp) : St := ⟨[(0, x0), (1, x1), (4, x4), (12, x12), (13, x13)], [], ⟨B, H⟩⟩
@[simp] theorem u84_2 (s : St) (k : K) : Run G c84_L2 s k = Run G c84_B2 { s with E := dropE [66, 71, 120, 139, 144] s.E } (.seq c84_L2 k) := w_loop _ _ s k
abbrev S84_3 (x0 x1 x4 x12 x13 : V) (B : List (Nat × List V)) (H : Hp) : St := ⟨[(0, x0), (1, x1), (4, x4), (12, x12), (13, x13)], [], ⟨B, H⟩⟩
@[simp] theorem u84_3 (s : St) (k : K) : Run G c84_L3 s k = Run G c84_B3 { s with E := dropE [120, 139] s.E } (.seq c84_L3 k) := w_loop _ _ s k
abbrev S84_4 (x0 x1 x4 x12 x13 : V) (B : List (Nat × List V)) (H : Hp) : St := ⟨[(0, x0), (1, x1), (4, x4), (12, x12), (13, x13)], [], ⟨B, H⟩⟩
@[simp] theorem u84_4 (s : St) (k : K) : Run G c84_L4 s k = Run G c84_B4 { s with E := dropE [66, 71, 120, 139, 144] s.E } (.seq c84_L4 k) := w_loop _ _ s k
abbrev S87_0 (x3 x6 x7 x8 : V) (B : List (Nat × List V)) (H : Hp) : St := ⟨[(3, x3), (6, x6), (7, x7), (8, x8)], [], ⟨B, H⟩⟩
@[simp] theorem u87_0 (s : St) (k : K) : Run G c87_L0 s k = Run G c87_B0 { s with E := dropE [0, 2, 5, 9, 14] s.E } (.seq c87_L0 k) := w_loop _ _ s k
abbrev S91_0 (x0 x1 x4 : V) (B : List (Nat × List V)) (H : Hp) : St := ⟨[(0, x0), (1, x1), (4, x4)], [], ⟨B, H⟩⟩
@[simp] theorem u91_0 (s : St) (k : K) : Run G c91_L0 s k = Run G c91_B0 { s with E := dropE [5, 6, 7, 8, 9, 10, 11, 20] s.E } (.seq c91_L0 k) := w_loop _ _ s k
abbrev S108_0 (x0 x2 x3 x4 x10 : V) (B : List (Nat × List V)) (H : Hp) : St := ⟨[(0, x0), (2, x2), (3, x3), (4, x4), (10, x10)], [], ⟨B, H⟩⟩
@[simp] theorem u108_0 (s : St) (k : K) : Run G c108_L0 s k = Run G c108_B0 { s with E := dropE [1, 11, 18, 40, 58] s.E } (.seq c108_L0 k) := w_loop _ _ s k
abbrev S121_0 (x175 : V) (B : List (Nat × List V)) (H : Hp) : St := ⟨[(175, x175)], [], ⟨B, H⟩⟩
@[simp] theorem u121_0 (s : St) (k : K) : Run G c121_L0 s k = Run G c121_B0 { s with E := dropE [0, 1, 4, 5, 6, 160, 171, 176, 177, 181] s.E } (.seq c121_L0 k) := w_loop _ _ s k
abbrev S121_1 (x0 x7 x8 x9 x12 : V) (B : List (Nat × List V)) (H : Hp) : St := ⟨[(0, x0), (7, x7), (8, x8), (9, x9), (12, x12)], [], ⟨B, H⟩⟩
@[simp] theorem u121_1 (s : St) (k : K) : Run G c121_L1 s k = Run G c121_B1 { s with E := dropE [11, 26, 33, 43, 51, 64] s.E } (.seq c121_L1 k) := w_loop _ _ s k
abbrev S121_2 (x0 x7 x8 x9 : V) (B : List (Nat × List V)) (H : Hp) : St := ⟨[(0, x0), (7, x7), (8, x8), (9, x9)], [], ⟨B, H⟩⟩
@[simp] theorem u121_2 (s : St) (k : K) : Run G c121_L2 s k = Run G c121_B2 { s with E := dropE [1, 4, 10, 160, 171, 183] s.E } (.seq c121_L2 k) := w_loop _ _ s k
abbrev S121_3 (B : List (Nat × List V)) (H : Hp) : St := ⟨[], [], ⟨B, H⟩⟩
@[simp] theorem u121_3 (s : St) (k : K) : Run G c121_L3 s k = Run G c121_B3 { s with E := dropE [143, 156] s.E } (.seq c121_L3 k) := w_loop _ _ s k
abbrev S121_4 (B : List (Nat × List V)) (H : Hp) : St := ⟨[], [], ⟨B, H⟩⟩
@[simp] theorem u121_4 (s : St) (k : K) : Run G c121_L4 s k = Run G c121_B4 { s with E := dropE [4, 16, 124, 139, 143, 156] s.E } (.seq c121_L4 k) := w_loop _ _ s k
end Go.Mx.Tryz
