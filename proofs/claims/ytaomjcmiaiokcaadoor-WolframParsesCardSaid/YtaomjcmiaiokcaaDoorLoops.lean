/- The loops of this seat, one round at a time. -/
import Derived.Test.YtaomjcmiaiokcaaDoorSeat
namespace Go.Mx.Tryd
abbrev S9_0 (x0 x2 x4 x13 : V) (B : List (Nat × List V)) (H : Hp) : St := ⟨[(0, x0), (2, x2), (4, x4), (13, x13)], [], ⟨B, H⟩⟩
@[simp] theorem u9_0 (s : St) (k : K) : Run G c9_L0 s k = Run G c9_B0 { s with E := dropE [3, 5, 11, 14] s.E } (.seq c9_L0 k) := w_loop _ _ s k
abbrev S11_0 (x1 x4 x8 : V) (B : List (Nat × List V)) (H : Hp) : St := ⟨[(1, x1), (4, x4), (8, x8)], [], ⟨B, H⟩⟩
@[simp] theorem u11_0 (s : St) (k : K) : Run G c11_L0 s k = Run G c11_B0 { s with E := dropE [0, 2, 3, 5, 7, 9] s.E } (.seq c11_L0 k) := w_loop _ _ s k
abbrev S14_0 (x4 x6 x16 : V) (B : List (Nat × List V)) (H : Hp) : St := ⟨[(4, x4), (6, x6), (16, x16)], [], ⟨B, H⟩⟩
@[simp] theorem u14_0 (s : St) (k : K) : Run G c14_L0 s k = Run G c14_B0 { s with E := dropE [0, 2, 3, 5, 7, 14, 17] s.E } (.seq c14_L0 k) := w_loop _ _ s k
abbrev S15_0 (x4 x6 x16 : V) (B : List (Nat × List V)) (H : Hp) : St := ⟨[(4, x4), (6, x6), (16, x16)], [], ⟨B, H⟩⟩
@[simp] theorem u15_0 (s : St) (k : K) : Run G c15_L0 s k = Run G c15_B0 { s with E := dropE [0, 2, 3, 5, 7, 14, 17] s.E } (.seq c15_L0 k) := w_loop _ _ s k
abbrev S19_0 (x0 x8 x9 : V) (B : List (Nat × List V)) (H : Hp) : St := ⟨[(0, x0), (8, x8), (9, x9)], [], ⟨B, H⟩⟩
@[simp] theorem u19_0 (s : St) (k : K) : Run G c19_L0 s k = Run G c19_B0 { s with E := dropE [2, 3, 4, 5, 28, 45, 51] s.E } (.seq c19_L0 k) := w_loop _ _ s k
abbrev S20_0 (x0 x1 x6 x16 x17 : V) (B : List (Nat × List V)) (H : Hp) : St := ⟨[(0, x0), (1, x1), (6, x6), (16, x16), (17, x17)], [], ⟨B, H⟩⟩
@[simp] theorem u20_0 (s : St) (k : K) : Run G c20_L0 s k = Run G c20_B0 { s with E := dropE [4, 5, 12, 14, 18] s.E } (.seq c20_L0 k) := w_loop _ _ s k
abbrev S21_0 (x0 x1 x6 x7 : V) (B : List (Nat × List V)) (H : Hp) : St := ⟨[(0, x0), (1, x1), (6, x6), (7, x7)], [], ⟨B, H⟩⟩
@[simp] theorem u21_0 (s : St) (k : K) : Run G c21_L0 s k = Run G c21_B0 { s with E := dropE [4, 5, 13, 15, 20] s.E } (.seq c21_L0 k) := w_loop _ _ s k
abbrev S22_0 (x0 x1 x5 : V) (B : List (Nat × List V)) (H : Hp) : St := ⟨[(0, x0), (1, x1), (5, x5)], [], ⟨B, H⟩⟩
@[simp] theorem u22_0 (s : St) (k : K) : Run G c22_L0 s k = Run G c22_B0 { s with E := dropE [4, 10, 14, 25] s.E } (.seq c22_L0 k) := w_loop _ _ s k
abbrev S31_0 (x0 x3 : V) (B : List (Nat × List V)) (H : Hp) : St := ⟨[(0, x0), (3, x3)], [], ⟨B, H⟩⟩
@[simp] theorem u31_0 (s : St) (k : K) : Run G c31_L0 s k = Run G c31_B0 { s with E := dropE [2, 16, 20, 32] s.E } (.seq c31_L0 k) := w_loop _ _ s k
abbrev S32_0 (x0 x4 x5 : V) (B : List (Nat × List V)) (H : Hp) : St := ⟨[(0, x0), (4, x4), (5, x5)], [], ⟨B, H⟩⟩
@[simp] theorem u32_0 (s : St) (k : K) : Run G c32_L0 s k = Run G c32_B0 { s with E := dropE [2, 3, 6, 10, 22] s.E } (.seq c32_L0 k) := w_loop _ _ s k
abbrev S35_0 (x0 x1 x7 x8 : V) (B : List (Nat × List V)) (H : Hp) : St := ⟨[(0, x0), (1, x1), (7, x7), (8, x8)], [], ⟨B, H⟩⟩
@[simp] theorem u35_0 (s : St) (k : K) : Run G c35_L0 s k = Run G c35_B0 { s with E := dropE [4, 5, 9, 16] s.E } (.seq c35_L0 k) := w_loop _ _ s k
abbrev S41_0 (x0 x1 : V) (B : List (Nat × List V)) (H : Hp) : St := ⟨[(0, x0), (1, x1)], [], ⟨B, H⟩⟩
@[simp] theorem u41_0 (s : St) (k : K) : Run G c41_L0 s k = Run G c41_B0 { s with E := dropE [4, 13] s.E } (.seq c41_L0 k) := w_loop _ _ s k
abbrev S42_0 (x0 x1 : V) (B : List (Nat × List V)) (H : Hp) : St := ⟨[(0, x0), (1, x1)], [], ⟨B, H⟩⟩
@[simp] theorem u42_0 (s : St) (k : K) : Run G c42_L0 s k = Run G c42_B0 { s with E := dropE [4, 16] s.E } (.seq c42_L0 k) := w_loop _ _ s k
abbrev S43_0 (x0 x2 x4 : V) (B : List (Nat × List V)) (H : Hp) : St := ⟨[(0, x0), (2, x2), (4, x4)], [], ⟨B, H⟩⟩
@[simp] theorem u43_0 (s : St) (k : K) : Run G c43_L0 s k = Run G c43_B0 { s with E := dropE [3, 5, 9, 16] s.E } (.seq c43_L0 k) := w_loop _ _ s k
abbrev S44_0 (x0 x1 : V) (B : List (Nat × List V)) (H : Hp) : St := ⟨[(0, x0), (1, x1)], [], ⟨B, H⟩⟩
@[simp] theorem u44_0 (s : St) (k : K) : Run G c44_L0 s k = Run G c44_B0 { s with E := dropE [4, 7, 12] s.E } (.seq c44_L0 k) := w_loop _ _ s k
abbrev S45_0 (x0 x1 : V) (B : List (Nat × List V)) (H : Hp) : St := ⟨[(0, x0), (1, x1)], [], ⟨B, H⟩⟩
@[simp] theorem u45_0 (s : St) (k : K) : Run G c45_L0 s k = Run G c45_B0 { s with E := dropE [4, 7, 15] s.E } (.seq c45_L0 k) := w_loop _ _ s k
abbrev S46_0 (x0 x1 : V) (B : List (Nat × List V)) (H : Hp) : St := ⟨[(0, x0), (1, x1)], [], ⟨B, H⟩⟩
@[simp] theorem u46_0 (s : St) (k : K) : Run G c46_L0 s k = Run G c46_B0 { s with E := dropE [4, 5, 6, 9, 18] s.E } (.seq c46_L0 k) := w_loop _ _ s k
abbrev S47_0 (x0 x1 : V) (B : List (Nat × List V)) (H : Hp) : St := ⟨[(0, x0), (1, x1)], [], ⟨B, H⟩⟩
@[simp] theorem u47_0 (s : St) (k : K) : Run G c47_L0 s k = Run G c47_B0 { s with E := dropE [4, 5, 6, 9, 17, 26] s.E } (.seq c47_L0 k) := w_loop _ _ s k
abbrev S50_0 (x0 x1 x5 x6 x7 x8 x9 x10 : V) (B : List (Nat × List V)) (H : Hp) : St := ⟨[(0, x0), (1, x1), (5, x5), (6, x6), (7, x7), (8, x8), (9, x9), (10, x10)], [], ⟨B, H⟩⟩
@[simp] theorem u50_0 (s : St) (k : K) : Run G c50_L0 s k = Run G c50_B0 { s with E := dropE [4, 11, 16, 24, 31, 36, 59, 64, 73, 93, 107, 132] s.E } (.seq c50_L0 k) := w_loop _ _ s k
abbrev S65_0 (x175 : V) (B : List (Nat × List V)) (H : Hp) : St := ⟨[(175, x175)], [], ⟨B, H⟩⟩
@[simp] theorem u65_0 (s : St) (k : K) : Run G c65_L0 s k = Run G c65_B0 { s with E := dropE [0, 1, 4, 5, 6, 160, 171, 176, 177, 181] s.E } (.seq c65_L0 k) := w_loop _ _ s k
abbrev S65_1 (x0 x7 x8 x9 x12 : V) (B : List (Nat × List V)) (H : Hp) : St := ⟨[(0, x0), (7, x7), (8, x8), (9, x9), (12, x12)], [], ⟨B, H⟩⟩
@[simp] theorem u65_1 (s : St) (k : K) : Run G c65_L1 s k = Run G c65_B1 { s with E := dropE [11, 26, 33, 43, 51, 64] s.E } (.seq c65_L1 k) := w_loop _ _ s k
abbrev S65_2 (x0 x7 x8 x9 : V) (B : List (Nat × List V)) (H : Hp) : St := ⟨[(0, x0), (7, x7), (8, x8), (9, x9)], [], ⟨B, H⟩⟩
@[simp] theorem u65_2 (s : St) (k : K) : Run G c65_L2 s k = Run G c65_B2 { s with E := dropE [1, 4, 10, 160, 171, 183] s.E } (.seq c65_L2 k) := w_loop _ _ s k
abbrev S65_3 (B : List (Nat × List V)) (H : Hp) : St := ⟨[], [], ⟨B, H⟩⟩
@[simp] theorem u65_3 (s : St) (k : K) : Run G c65_L3 s k = Run G c65_B3 { s with E := dropE [143, 156] s.E } (.seq c65_L3 k) := w_loop _ _ s k
abbrev S65_4 (B : List (Nat × List V)) (H : Hp) : St := ⟨[], [], ⟨B, H⟩⟩
@[simp] theorem u65_4 (s : St) (k : K) : Run G c65_L4 s k = Run G c65_B4 { s with E := dropE [4, 16, 124, 139, 143, 156] s.E } (.seq c65_L4 k) := w_loop _ _ s k
end Go.Mx.Tryd
