/- The loops of this seat, one round at a time. -/
import Derived.Test.YtaomjcmiaiokcaaDoorSeat
namespace Go.Mx.Tryd
@[simp] theorem u9_0 (s : St) (k : K) : Run G c9_L0 s k = Run G c9_B0 { s with E := dropE [5, 14] s.E } (.seq c9_L0 k) := w_loop _ _ s k
@[simp] theorem u10_0 (s : St) (k : K) : Run G c10_L0 s k = Run G c10_B0 { s with E := dropE [14] s.E } (.seq c10_L0 k) := w_loop _ _ s k
@[simp] theorem u11_0 (s : St) (k : K) : Run G c11_L0 s k = Run G c11_B0 { s with E := dropE [5, 9] s.E } (.seq c11_L0 k) := w_loop _ _ s k
@[simp] theorem u13_0 (s : St) (k : K) : Run G c13_L0 s k = Run G c13_B0 { s with E := dropE [2, 3, 7, 19] s.E } (.seq c13_L0 k) := w_loop _ _ s k
@[simp] theorem u14_0 (s : St) (k : K) : Run G c14_L0 s k = Run G c14_B0 { s with E := dropE [7, 17] s.E } (.seq c14_L0 k) := w_loop _ _ s k
@[simp] theorem u15_0 (s : St) (k : K) : Run G c15_L0 s k = Run G c15_B0 { s with E := dropE [7, 17] s.E } (.seq c15_L0 k) := w_loop _ _ s k
@[simp] theorem u19_0 (s : St) (k : K) : Run G c19_L0 s k = Run G c19_B0 { s with E := dropE [45, 51] s.E } (.seq c19_L0 k) := w_loop _ _ s k
@[simp] theorem u20_0 (s : St) (k : K) : Run G c20_L0 s k = Run G c20_B0 { s with E := dropE [18] s.E } (.seq c20_L0 k) := w_loop _ _ s k
@[simp] theorem u21_0 (s : St) (k : K) : Run G c21_L0 s k = Run G c21_B0 { s with E := dropE [20] s.E } (.seq c21_L0 k) := w_loop _ _ s k
@[simp] theorem u22_0 (s : St) (k : K) : Run G c22_L0 s k = Run G c22_B0 { s with E := dropE [4, 14, 25] s.E } (.seq c22_L0 k) := w_loop _ _ s k
@[simp] theorem u23_0 (s : St) (k : K) : Run G c23_L0 s k = Run G c23_B0 { s with E := dropE [4, 5, 7, 8, 28, 43] s.E } (.seq c23_L0 k) := w_loop _ _ s k
@[simp] theorem u24_0 (s : St) (k : K) : Run G c24_L0 s k = Run G c24_B0 { s with E := dropE [4, 5, 26, 41] s.E } (.seq c24_L0 k) := w_loop _ _ s k
@[simp] theorem u24_1 (s : St) (k : K) : Run G c24_L1 s k = Run G c24_B1 { s with E := dropE [4, 5, 46, 57] s.E } (.seq c24_L1 k) := w_loop _ _ s k
@[simp] theorem u27_0 (s : St) (k : K) : Run G c27_L0 s k = Run G c27_B0 { s with E := dropE [29, 32] s.E } (.seq c27_L0 k) := w_loop _ _ s k
@[simp] theorem u27_1 (s : St) (k : K) : Run G c27_L1 s k = Run G c27_B1 { s with E := dropE [11, 25, 29, 32] s.E } (.seq c27_L1 k) := w_loop _ _ s k
@[simp] theorem u27_2 (s : St) (k : K) : Run G c27_L2 s k = Run G c27_B2 { s with E := dropE [10, 11, 21, 25, 29, 32] s.E } (.seq c27_L2 k) := w_loop _ _ s k
@[simp] theorem u31_0 (s : St) (k : K) : Run G c31_L0 s k = Run G c31_B0 { s with E := dropE [2, 20, 32] s.E } (.seq c31_L0 k) := w_loop _ _ s k
@[simp] theorem u32_0 (s : St) (k : K) : Run G c32_L0 s k = Run G c32_B0 { s with E := dropE [2, 3, 6, 10, 22] s.E } (.seq c32_L0 k) := w_loop _ _ s k
@[simp] theorem u35_0 (s : St) (k : K) : Run G c35_L0 s k = Run G c35_B0 { s with E := dropE [4, 5, 9, 16] s.E } (.seq c35_L0 k) := w_loop _ _ s k
@[simp] theorem u41_0 (s : St) (k : K) : Run G c41_L0 s k = Run G c41_B0 { s with E := dropE [13] s.E } (.seq c41_L0 k) := w_loop _ _ s k
@[simp] theorem u42_0 (s : St) (k : K) : Run G c42_L0 s k = Run G c42_B0 { s with E := dropE [16] s.E } (.seq c42_L0 k) := w_loop _ _ s k
@[simp] theorem u43_0 (s : St) (k : K) : Run G c43_L0 s k = Run G c43_B0 { s with E := dropE [3, 5, 9, 16] s.E } (.seq c43_L0 k) := w_loop _ _ s k
@[simp] theorem u44_0 (s : St) (k : K) : Run G c44_L0 s k = Run G c44_B0 { s with E := dropE [7, 12] s.E } (.seq c44_L0 k) := w_loop _ _ s k
@[simp] theorem u45_0 (s : St) (k : K) : Run G c45_L0 s k = Run G c45_B0 { s with E := dropE [7, 15] s.E } (.seq c45_L0 k) := w_loop _ _ s k
@[simp] theorem u46_0 (s : St) (k : K) : Run G c46_L0 s k = Run G c46_B0 { s with E := dropE [5, 6, 9, 18] s.E } (.seq c46_L0 k) := w_loop _ _ s k
@[simp] theorem u47_0 (s : St) (k : K) : Run G c47_L0 s k = Run G c47_B0 { s with E := dropE [5, 6, 9, 17, 26] s.E } (.seq c47_L0 k) := w_loop _ _ s k
@[simp] theorem u48_0 (s : St) (k : K) : Run G c48_L0 s k = Run G c48_B0 { s with E := dropE [2, 3, 8, 50, 56] s.E } (.seq c48_L0 k) := w_loop _ _ s k
@[simp] theorem u50_0 (s : St) (k : K) : Run G c50_L0 s k = Run G c50_B0 { s with E := dropE [4, 11, 12, 13, 59, 64, 73, 93, 107, 114, 132, 139] s.E } (.seq c50_L0 k) := w_loop _ _ s k
@[simp] theorem u54_0 (s : St) (k : K) : Run G c54_L0 s k = Run G c54_B0 { s with E := dropE [27, 33] s.E } (.seq c54_L0 k) := w_loop _ _ s k
@[simp] theorem u63_0 (s : St) (k : K) : Run G c63_L0 s k = Run G c63_B0 { s with E := dropE [20] s.E } (.seq c63_L0 k) := w_loop _ _ s k
@[simp] theorem u63_1 (s : St) (k : K) : Run G c63_L1 s k = Run G c63_B1 { s with E := dropE [4, 44, 77] s.E } (.seq c63_L1 k) := w_loop _ _ s k
@[simp] theorem u65_0 (s : St) (k : K) : Run G c65_L0 s k = Run G c65_B0 { s with E := dropE [4, 5, 6, 176, 177, 181] s.E } (.seq c65_L0 k) := w_loop _ _ s k
@[simp] theorem u67_0 (s : St) (k : K) : Run G c67_L0 s k = Run G c67_B0 { s with E := dropE [6, 7, 15, 16, 17, 102, 106, 112, 121, 137, 141, 159] s.E } (.seq c67_L0 k) := w_loop _ _ s k
@[simp] theorem u72_0 (s : St) (k : K) : Run G c72_L0 s k = Run G c72_B0 { s with E := dropE [12] s.E } (.seq c72_L0 k) := w_loop _ _ s k
@[simp] theorem u72_1 (s : St) (k : K) : Run G c72_L1 s k = Run G c72_B1 { s with E := dropE [25, 30] s.E } (.seq c72_L1 k) := w_loop _ _ s k
@[simp] theorem u76_0 (s : St) (k : K) : Run G c76_L0 s k = Run G c76_B0 { s with E := dropE [2, 54, 83, 87, 89, 91] s.E } (.seq c76_L0 k) := w_loop _ _ s k
@[simp] theorem u81_0 (s : St) (k : K) : Run G c81_L0 s k = Run G c81_B0 { s with E := dropE [5, 6, 7, 8, 9, 10, 11, 20] s.E } (.seq c81_L0 k) := w_loop _ _ s k
@[simp] theorem u82_0 (s : St) (k : K) : Run G c82_L0 s k = Run G c82_B0 { s with E := dropE [46] s.E } (.seq c82_L0 k) := w_loop _ _ s k
@[simp] theorem u82_1 (s : St) (k : K) : Run G c82_L1 s k = Run G c82_B1 { s with E := dropE [18, 68] s.E } (.seq c82_L1 k) := w_loop _ _ s k
end Go.Mx.Tryd
