/- The loops of this seat, one round at a time. -/
import Derived.Test.YtjkepihkilnjiaaDoorSeat
namespace Go.Mx.Tryd
@[simp] theorem u7_0 (s : St) (k : K) : Run G c7_L0 s k = Run G c7_B0 { s with E := dropE [6, 46, 81] s.E } (.seq c7_L0 k) := w_loop _ _ s k
@[simp] theorem u9_0 (s : St) (k : K) : Run G c9_L0 s k = Run G c9_B0 { s with E := dropE [10, 41] s.E } (.seq c9_L0 k) := w_loop _ _ s k
@[simp] theorem u9_1 (s : St) (k : K) : Run G c9_L1 s k = Run G c9_B1 { s with E := dropE [12, 13, 14, 15, 56, 70, 77] s.E } (.seq c9_L1 k) := w_loop _ _ s k
@[simp] theorem u10_0 (s : St) (k : K) : Run G c10_L0 s k = Run G c10_B0 { s with E := dropE [11, 35, 51, 62] s.E } (.seq c10_L0 k) := w_loop _ _ s k
@[simp] theorem u10_1 (s : St) (k : K) : Run G c10_L1 s k = Run G c10_B1 { s with E := dropE [70, 85] s.E } (.seq c10_L1 k) := w_loop _ _ s k
@[simp] theorem u11_0 (s : St) (k : K) : Run G c11_L0 s k = Run G c11_B0 { s with E := dropE [8, 29] s.E } (.seq c11_L0 k) := w_loop _ _ s k
@[simp] theorem u12_0 (s : St) (k : K) : Run G c12_L0 s k = Run G c12_B0 { s with E := dropE [28] s.E } (.seq c12_L0 k) := w_loop _ _ s k
@[simp] theorem u13_0 (s : St) (k : K) : Run G c13_L0 s k = Run G c13_B0 { s with E := dropE [8, 20, 29] s.E } (.seq c13_L0 k) := w_loop _ _ s k
@[simp] theorem u14_0 (s : St) (k : K) : Run G c14_L0 s k = Run G c14_B0 { s with E := dropE [19, 34] s.E } (.seq c14_L0 k) := w_loop _ _ s k
@[simp] theorem u15_0 (s : St) (k : K) : Run G c15_L0 s k = Run G c15_B0 { s with E := dropE [4, 5, 14, 24] s.E } (.seq c15_L0 k) := w_loop _ _ s k
@[simp] theorem u16_0 (s : St) (k : K) : Run G c16_L0 s k = Run G c16_B0 { s with E := dropE [21] s.E } (.seq c16_L0 k) := w_loop _ _ s k
@[simp] theorem u17_0 (s : St) (k : K) : Run G c17_L0 s k = Run G c17_B0 { s with E := dropE [11, 22] s.E } (.seq c17_L0 k) := w_loop _ _ s k
@[simp] theorem u18_0 (s : St) (k : K) : Run G c18_L0 s k = Run G c18_B0 { s with E := dropE [6, 7, 38, 42] s.E } (.seq c18_L0 k) := w_loop _ _ s k
@[simp] theorem u18_1 (s : St) (k : K) : Run G c18_L1 s k = Run G c18_B1 { s with E := dropE [5, 6, 7, 11, 36, 37, 38, 42] s.E } (.seq c18_L1 k) := w_loop _ _ s k
@[simp] theorem u19_0 (s : St) (k : K) : Run G c19_L0 s k = Run G c19_B0 { s with E := dropE [66, 70] s.E } (.seq c19_L0 k) := w_loop _ _ s k
@[simp] theorem u19_1 (s : St) (k : K) : Run G c19_L1 s k = Run G c19_B1 { s with E := dropE [5, 6, 10, 66, 70] s.E } (.seq c19_L1 k) := w_loop _ _ s k
@[simp] theorem u21_0 (s : St) (k : K) : Run G c21_L0 s k = Run G c21_B0 { s with E := dropE [11, 25] s.E } (.seq c21_L0 k) := w_loop _ _ s k
@[simp] theorem u22_0 (s : St) (k : K) : Run G c22_L0 s k = Run G c22_B0 { s with E := dropE [2, 7, 54] s.E } (.seq c22_L0 k) := w_loop _ _ s k
@[simp] theorem u23_0 (s : St) (k : K) : Run G c23_L0 s k = Run G c23_B0 { s with E := dropE [54] s.E } (.seq c23_L0 k) := w_loop _ _ s k
@[simp] theorem u23_1 (s : St) (k : K) : Run G c23_L1 s k = Run G c23_B1 { s with E := dropE [12, 13, 48, 54] s.E } (.seq c23_L1 k) := w_loop _ _ s k
@[simp] theorem u23_2 (s : St) (k : K) : Run G c23_L2 s k = Run G c23_B2 { s with E := dropE [87] s.E } (.seq c23_L2 k) := w_loop _ _ s k
@[simp] theorem u24_0 (s : St) (k : K) : Run G c24_L0 s k = Run G c24_B0 { s with E := dropE [4, 5, 14, 24] s.E } (.seq c24_L0 k) := w_loop _ _ s k
@[simp] theorem u25_0 (s : St) (k : K) : Run G c25_L0 s k = Run G c25_B0 { s with E := dropE [2, 3, 4, 11, 42] s.E } (.seq c25_L0 k) := w_loop _ _ s k
@[simp] theorem u26_0 (s : St) (k : K) : Run G c26_L0 s k = Run G c26_B0 { s with E := dropE [7, 29] s.E } (.seq c26_L0 k) := w_loop _ _ s k
@[simp] theorem u27_0 (s : St) (k : K) : Run G c27_L0 s k = Run G c27_B0 { s with E := dropE [37] s.E } (.seq c27_L0 k) := w_loop _ _ s k
@[simp] theorem u28_0 (s : St) (k : K) : Run G c28_L0 s k = Run G c28_B0 { s with E := dropE [6, 11, 29] s.E } (.seq c28_L0 k) := w_loop _ _ s k
@[simp] theorem u29_0 (s : St) (k : K) : Run G c29_L0 s k = Run G c29_B0 { s with E := dropE [4, 8] s.E } (.seq c29_L0 k) := w_loop _ _ s k
@[simp] theorem u30_0 (s : St) (k : K) : Run G c30_L0 s k = Run G c30_B0 { s with E := dropE [8] s.E } (.seq c30_L0 k) := w_loop _ _ s k
@[simp] theorem u42_0 (s : St) (k : K) : Run G c42_L0 s k = Run G c42_B0 { s with E := dropE [2, 3, 18, 27] s.E } (.seq c42_L0 k) := w_loop _ _ s k
@[simp] theorem u43_0 (s : St) (k : K) : Run G c43_L0 s k = Run G c43_B0 { s with E := dropE [6, 7, 10, 11, 28, 41] s.E } (.seq c43_L0 k) := w_loop _ _ s k
@[simp] theorem u46_0 (s : St) (k : K) : Run G c46_L0 s k = Run G c46_B0 { s with E := dropE [2, 4, 16, 54] s.E } (.seq c46_L0 k) := w_loop _ _ s k
@[simp] theorem u47_0 (s : St) (k : K) : Run G c47_L0 s k = Run G c47_B0 { s with E := dropE [13] s.E } (.seq c47_L0 k) := w_loop _ _ s k
@[simp] theorem u57_0 (s : St) (k : K) : Run G c57_L0 s k = Run G c57_B0 { s with E := dropE [4, 5, 12, 13, 14, 28, 44, 52, 55] s.E } (.seq c57_L0 k) := w_loop _ _ s k
@[simp] theorem u57_1 (s : St) (k : K) : Run G c57_L1 s k = Run G c57_B1 { s with E := dropE [4, 5, 10, 12, 13, 14, 21, 25, 26, 27, 28, 44, 52, 55] s.E } (.seq c57_L1 k) := w_loop _ _ s k
@[simp] theorem u63_0 (s : St) (k : K) : Run G c63_L0 s k = Run G c63_B0 { s with E := dropE [5, 10] s.E } (.seq c63_L0 k) := w_loop _ _ s k
@[simp] theorem u64_0 (s : St) (k : K) : Run G c64_L0 s k = Run G c64_B0 { s with E := dropE [9, 18] s.E } (.seq c64_L0 k) := w_loop _ _ s k
@[simp] theorem u66_0 (s : St) (k : K) : Run G c66_L0 s k = Run G c66_B0 { s with E := dropE [2, 3, 6, 11, 14, 19, 28] s.E } (.seq c66_L0 k) := w_loop _ _ s k
@[simp] theorem u66_1 (s : St) (k : K) : Run G c66_L1 s k = Run G c66_B1 { s with E := dropE [2, 3, 42, 56] s.E } (.seq c66_L1 k) := w_loop _ _ s k
@[simp] theorem u67_0 (s : St) (k : K) : Run G c67_L0 s k = Run G c67_B0 { s with E := dropE [2, 5, 9, 14] s.E } (.seq c67_L0 k) := w_loop _ _ s k
@[simp] theorem u71_0 (s : St) (k : K) : Run G c71_L0 s k = Run G c71_B0 { s with E := dropE [5, 6, 7, 8, 9, 10, 11, 20] s.E } (.seq c71_L0 k) := w_loop _ _ s k
@[simp] theorem u72_0 (s : St) (k : K) : Run G c72_L0 s k = Run G c72_B0 { s with E := dropE [46] s.E } (.seq c72_L0 k) := w_loop _ _ s k
@[simp] theorem u72_1 (s : St) (k : K) : Run G c72_L1 s k = Run G c72_B1 { s with E := dropE [18, 68] s.E } (.seq c72_L1 k) := w_loop _ _ s k
@[simp] theorem u73_0 (s : St) (k : K) : Run G c73_L0 s k = Run G c73_B0 { s with E := dropE [2, 7, 77, 114] s.E } (.seq c73_L0 k) := w_loop _ _ s k
@[simp] theorem u73_1 (s : St) (k : K) : Run G c73_L1 s k = Run G c73_B1 { s with E := dropE [2, 4, 5, 7, 50, 72, 74, 75, 76, 77, 114] s.E } (.seq c73_L1 k) := w_loop _ _ s k
@[simp] theorem u74_0 (s : St) (k : K) : Run G c74_L0 s k = Run G c74_B0 { s with E := dropE [7, 15] s.E } (.seq c74_L0 k) := w_loop _ _ s k
@[simp] theorem u82_0 (s : St) (k : K) : Run G c82_L0 s k = Run G c82_B0 { s with E := dropE [2, 3, 4, 16, 51] s.E } (.seq c82_L0 k) := w_loop _ _ s k
@[simp] theorem u83_0 (s : St) (k : K) : Run G c83_L0 s k = Run G c83_B0 { s with E := dropE [12, 13, 14, 15, 16, 17, 18, 19, 20, 25, 32, 39, 56, 75, 80, 97, 125] s.E } (.seq c83_L0 k) := w_loop _ _ s k
@[simp] theorem u87_0 (s : St) (k : K) : Run G c87_L0 s k = Run G c87_B0 { s with E := dropE [34] s.E } (.seq c87_L0 k) := w_loop _ _ s k
@[simp] theorem u87_1 (s : St) (k : K) : Run G c87_L1 s k = Run G c87_B1 { s with E := dropE [9, 14, 34] s.E } (.seq c87_L1 k) := w_loop _ _ s k
@[simp] theorem u88_0 (s : St) (k : K) : Run G c88_L0 s k = Run G c88_B0 { s with E := dropE [21] s.E } (.seq c88_L0 k) := w_loop _ _ s k
@[simp] theorem u88_1 (s : St) (k : K) : Run G c88_L1 s k = Run G c88_B1 { s with E := dropE [33] s.E } (.seq c88_L1 k) := w_loop _ _ s k
@[simp] theorem u89_0 (s : St) (k : K) : Run G c89_L0 s k = Run G c89_B0 { s with E := dropE [12, 35, 45] s.E } (.seq c89_L0 k) := w_loop _ _ s k
@[simp] theorem u91_0 (s : St) (k : K) : Run G c91_L0 s k = Run G c91_B0 { s with E := dropE [15] s.E } (.seq c91_L0 k) := w_loop _ _ s k
@[simp] theorem u92_0 (s : St) (k : K) : Run G c92_L0 s k = Run G c92_B0 { s with E := dropE [36] s.E } (.seq c92_L0 k) := w_loop _ _ s k
@[simp] theorem u92_1 (s : St) (k : K) : Run G c92_L1 s k = Run G c92_B1 { s with E := dropE [69, 84] s.E } (.seq c92_L1 k) := w_loop _ _ s k
@[simp] theorem u92_2 (s : St) (k : K) : Run G c92_L2 s k = Run G c92_B2 { s with E := dropE [109, 124] s.E } (.seq c92_L2 k) := w_loop _ _ s k
@[simp] theorem u92_3 (s : St) (k : K) : Run G c92_L3 s k = Run G c92_B3 { s with E := dropE [8, 11, 12, 16, 36, 41, 45, 65, 69, 84, 104, 109, 124] s.E } (.seq c92_L3 k) := w_loop _ _ s k
@[simp] theorem u93_0 (s : St) (k : K) : Run G c93_L0 s k = Run G c93_B0 { s with E := dropE [47] s.E } (.seq c93_L0 k) := w_loop _ _ s k
@[simp] theorem u93_1 (s : St) (k : K) : Run G c93_L1 s k = Run G c93_B1 { s with E := dropE [65] s.E } (.seq c93_L1 k) := w_loop _ _ s k
@[simp] theorem u93_2 (s : St) (k : K) : Run G c93_L2 s k = Run G c93_B2 { s with E := dropE [47] s.E } (.seq c93_L2 k) := w_loop _ _ s k
@[simp] theorem u94_0 (s : St) (k : K) : Run G c94_L0 s k = Run G c94_B0 { s with E := dropE [47] s.E } (.seq c94_L0 k) := w_loop _ _ s k
@[simp] theorem u94_1 (s : St) (k : K) : Run G c94_L1 s k = Run G c94_B1 { s with E := dropE [66] s.E } (.seq c94_L1 k) := w_loop _ _ s k
@[simp] theorem u94_2 (s : St) (k : K) : Run G c94_L2 s k = Run G c94_B2 { s with E := dropE [120] s.E } (.seq c94_L2 k) := w_loop _ _ s k
@[simp] theorem u94_3 (s : St) (k : K) : Run G c94_L3 s k = Run G c94_B3 { s with E := dropE [139] s.E } (.seq c94_L3 k) := w_loop _ _ s k
@[simp] theorem u94_4 (s : St) (k : K) : Run G c94_L4 s k = Run G c94_B4 { s with E := dropE [120] s.E } (.seq c94_L4 k) := w_loop _ _ s k
@[simp] theorem u96_0 (s : St) (k : K) : Run G c96_L0 s k = Run G c96_B0 { s with E := dropE [11, 18, 40, 58] s.E } (.seq c96_L0 k) := w_loop _ _ s k
end Go.Mx.Tryd
