/- The loops of this seat, one round at a time. -/
import Derived.Test.YtgljapjkjbmicaaGreatDoorSeat
namespace Go.Mx.Tryz
abbrev S4_0 (x1 x16 x17 : V) (B : List (Nat × List V)) (H : Hp) : St:=⟨[(1,x1),(16,x16),(17,x17)],[],⟨B,H⟩⟩
@[simp] theorem u4_0 (s : St) (k : K) : Run G c4_L0 s k = Run G c4_B0 { s with E:=Ar [0,2,3,13,18,27] s.E } (.seq c4_L0 k):=An _ _ s k
abbrev S5_0 (x1 x11 x12 : V) (B : List (Nat × List V)) (H : Hp) : St:=⟨[(1,x1),(11,x11),(12,x12)],[],⟨B,H⟩⟩
@[simp] theorem u5_0 (s : St) (k : K) : Run G c5_L0 s k = Run G c5_B0 { s with E:=Ar [0,2,3,4,8,13,32,66] s.E } (.seq c5_L0 k):=An _ _ s k
abbrev S7_0 (x2 x3 x5 x31 x32 x33 : V) (B : List (Nat × List V)) (H : Hp) : St:=⟨[(2,x2),(3,x3),(5,x5),(31,x31),(32,x32),(33,x33)],[],⟨B,H⟩⟩
@[simp] theorem u7_0 (s : St) (k : K) : Run G c7_L0 s k = Run G c7_B0 { s with E:=Ar [0,1,4,7,12,16,25,34,45] s.E } (.seq c7_L0 k):=An _ _ s k
abbrev S7_1 (x2 x3 x50 x51 x52 : V) (B : List (Nat × List V)) (H : Hp) : St:=⟨[(2,x2),(3,x3),(50,x50),(51,x51),(52,x52)],[],⟨B,H⟩⟩
@[simp] theorem u7_1 (s : St) (k : K) : Run G c7_L1 s k = Run G c7_B1 { s with E:=Ar [5,8,9,31,32,33,34,53,64] s.E } (.seq c7_L1 k):=An _ _ s k
abbrev S8_0 (x2 x3 x5 : V) (B : List (Nat × List V)) (H : Hp) : St:=⟨[(2,x2),(3,x3),(5,x5)],[],⟨B,H⟩⟩
@[simp] theorem u8_0 (s : St) (k : K) : Run G c8_L0 s k = Run G c8_B0 { s with E:=Ar [0,1,4,6,19,27,31,36,65] s.E } (.seq c8_L0 k):=An _ _ s k
abbrev S8_1 (x2 x3 x7 : V) (B : List (Nat × List V)) (H : Hp) : St:=⟨[(2,x2),(3,x3),(7,x7)],[],⟨B,H⟩⟩
@[simp] theorem u8_1 (s : St) (k : K) : Run G c8_L1 s k = Run G c8_B1 { s with E:=Ar [5,36,70,84] s.E } (.seq c8_L1 k):=An _ _ s k
abbrev S8_2 (x2 x3 x8 : V) (B : List (Nat × List V)) (H : Hp) : St:=⟨[(2,x2),(3,x3),(8,x8)],[],⟨B,H⟩⟩
@[simp] theorem u8_2 (s : St) (k : K) : Run G c8_L2 s k = Run G c8_B2 { s with E:=Ar [7,9,70,89,127] s.E } (.seq c8_L2 k):=An _ _ s k
abbrev S8_3 (x2 x3 x10 x11 : V) (B : List (Nat × List V)) (H : Hp) : St:=⟨[(2,x2),(3,x3),(10,x10),(11,x11)],[],⟨B,H⟩⟩
@[simp] theorem u8_3 (s : St) (k : K) : Run G c8_L3 s k = Run G c8_B3 { s with E:=Ar [8,12,13,14,89,132,141,152] s.E } (.seq c8_L3 k):=An _ _ s k
abbrev S11_0 (x2 x3 x6 x8 : V) (B : List (Nat × List V)) (H : Hp) : St:=⟨[(2,x2),(3,x3),(6,x6),(8,x8)],[],⟨B,H⟩⟩
@[simp] theorem u11_0 (s : St) (k : K) : Run G c11_L0 s k = Run G c11_B0 { s with E:=Ar [0,1,4,5,7,15,22,26,36] s.E } (.seq c11_L0 k):=An _ _ s k
abbrev S11_1 (x2 x3 x6 x9 : V) (B : List (Nat × List V)) (H : Hp) : St:=⟨[(2,x2),(3,x3),(6,x6),(9,x9)],[],⟨B,H⟩⟩
@[simp] theorem u11_1 (s : St) (k : K) : Run G c11_L1 s k = Run G c11_B1 { s with E:=Ar [8,10,11,12,26,40,58,71,79] s.E } (.seq c11_L1 k):=An _ _ s k
abbrev S19_0 (x3 x9 x10 x11 : V) (B : List (Nat × List V)) (H : Hp) : St:=⟨[(3,x3),(9,x9),(10,x10),(11,x11)],[],⟨B,H⟩⟩
@[simp] theorem u19_0 (s : St) (k : K) : Run G c19_L0 s k = Run G c19_B0 { s with E:=Ar [0,1,2,5,6,7,12,16,27] s.E } (.seq c19_L0 k):=An _ _ s k
abbrev S20_0 (x2 x3 x6 x8 : V) (B : List (Nat × List V)) (H : Hp) : St:=⟨[(2,x2),(3,x3),(6,x6),(8,x8)],[],⟨B,H⟩⟩
@[simp] theorem u20_0 (s : St) (k : K) : Run G c20_L0 s k = Run G c20_B0 { s with E:=Ar [0,1,4,5,7,9,10,11,14,21,24,28,46,59,67] s.E } (.seq c20_L0 k):=An _ _ s k
abbrev S21_0 (x0 x3 : V) (B : List (Nat × List V)) (H : Hp) : St:=⟨[(0,x0),(3,x3)],[],⟨B,H⟩⟩
@[simp] theorem u21_0 (s : St) (k : K) : Run G c21_L0 s k = Run G c21_B0 { s with E:=Ar [2,7,54] s.E } (.seq c21_L0 k):=An _ _ s k
abbrev S22_0 (x0 x3 : V) (B : List (Nat × List V)) (H : Hp) : St:=⟨[(0,x0),(3,x3)],[],⟨B,H⟩⟩
@[simp] theorem u22_0 (s : St) (k : K) : Run G c22_L0 s k = Run G c22_B0 { s with E:=Ar [2,4,7,11,48,62] s.E } (.seq c22_L0 k):=An _ _ s k
abbrev S23_0 (x0 x1 x6 x7 : V) (B : List (Nat × List V)) (H : Hp) : St:=⟨[(0,x0),(1,x1),(6,x6),(7,x7)],[],⟨B,H⟩⟩
@[simp] theorem u23_0 (s : St) (k : K) : Run G c23_L0 s k = Run G c23_B0 { s with E:=Ar [4,5,16,20,40] s.E } (.seq c23_L0 k):=An _ _ s k
abbrev S23_1 (x0 x1 x6 x8 : V) (B : List (Nat × List V)) (H : Hp) : St:=⟨[(0,x0),(1,x1),(6,x6),(8,x8)],[],⟨B,H⟩⟩
@[simp] theorem u23_1 (s : St) (k : K) : Run G c23_L1 s k = Run G c23_B1 { s with E:=Ar [7,20,63,79] s.E } (.seq c23_L1 k):=An _ _ s k
abbrev S24_0 (x1 x3 x4 x5 x6 : V) (B : List (Nat × List V)) (H : Hp) : St:=⟨[(1,x1),(3,x3),(4,x4),(5,x5),(6,x6)],[],⟨B,H⟩⟩
@[simp] theorem u24_0 (s : St) (k : K) : Run G c24_L0 s k = Run G c24_B0 { s with E:=Ar [7,35,61,65,74,83,103] s.E } (.seq c24_L0 k):=An _ _ s k
abbrev S24_1 (x1 x3 x4 : V) (B : List (Nat × List V)) (H : Hp) : St:=⟨[(1,x1),(3,x3),(4,x4)],[],⟨B,H⟩⟩
@[simp] theorem u24_1 (s : St) (k : K) : Run G c24_L1 s k = Run G c24_B1 { s with E:=Ar [0,2,5,6,32,65] s.E } (.seq c24_L1 k):=An _ _ s k
abbrev S25_0 (x1 x2 x6 : V) (B : List (Nat × List V)) (H : Hp) : St:=⟨[(1,x1),(2,x2),(6,x6)],[],⟨B,H⟩⟩
@[simp] theorem u25_0 (s : St) (k : K) : Run G c25_L0 s k = Run G c25_B0 { s with E:=Ar [0,4,5,9,15,19,35] s.E } (.seq c25_L0 k):=An _ _ s k
abbrev S26_0 (x1 x4 x5 : V) (B : List (Nat × List V)) (H : Hp) : St:=⟨[(1,x1),(4,x4),(5,x5)],[],⟨B,H⟩⟩
@[simp] theorem u26_0 (s : St) (k : K) : Run G c26_L0 s k = Run G c26_B0 { s with E:=Ar [0,2,3,6,7,8,9,23,28,70,71,81,105] s.E } (.seq c26_L0 k):=An _ _ s k
abbrev S27_0 (x0 x3 x4 : V) (B : List (Nat × List V)) (H : Hp) : St:=⟨[(0,x0),(3,x3),(4,x4)],[],⟨B,H⟩⟩
@[simp] theorem u27_0 (s : St) (k : K) : Run G c27_L0 s k = Run G c27_B0 { s with E:=Ar [2,8] s.E } (.seq c27_L0 k):=An _ _ s k
abbrev S33_0 (x0 x13 x14 x15 : V) (B : List (Nat × List V)) (H : Hp) : St:=⟨[(0,x0),(13,x13),(14,x14),(15,x15)],[],⟨B,H⟩⟩
@[simp] theorem u33_0 (s : St) (k : K) : Run G c33_L0 s k = Run G c33_B0 { s with E:=Ar [2,3,4,12,16,51] s.E } (.seq c33_L0 k):=An _ _ s k
abbrev S45_0 (x1 x4 x5 x47 x48 x49 x74 x75 x76 : V) (B : List (Nat × List V)) (H : Hp) : St:=⟨[(1,x1),(4,x4),(5,x5),(47,x47),(48,x48),(49,x49),(74,x74),(75,x75),(76,x76)],[],⟨B,H⟩⟩
@[simp] theorem u45_0 (s : St) (k : K) : Run G c45_L0 s k = Run G c45_B0 { s with E:=Ar [7,50,72,77,114] s.E } (.seq c45_L0 k):=An _ _ s k
abbrev S45_1 (x1 x47 x48 x49 : V) (B : List (Nat × List V)) (H : Hp) : St:=⟨[(1,x1),(47,x47),(48,x48),(49,x49)],[],⟨B,H⟩⟩
@[simp] theorem u45_1 (s : St) (k : K) : Run G c45_L1 s k = Run G c45_B1 { s with E:=Ar [0,2,3,4,5,45,74,75,76,77] s.E } (.seq c45_L1 k):=An _ _ s k
abbrev S46_0 (x2 x5 x12 x13 x14 : V) (B : List (Nat × List V)) (H : Hp) : St:=⟨[(2,x2),(5,x5),(12,x12),(13,x13),(14,x14)],[],⟨B,H⟩⟩
@[simp] theorem u46_0 (s : St) (k : K) : Run G c46_L0 s k = Run G c46_B0 { s with E:=Ar [0,1,4,7,15] s.E } (.seq c46_L0 k):=An _ _ s k
abbrev S47_0 (x0 x1 x7 x8 : V) (B : List (Nat × List V)) (H : Hp) : St:=⟨[(0,x0),(1,x1),(7,x7),(8,x8)],[],⟨B,H⟩⟩
@[simp] theorem u47_0 (s : St) (k : K) : Run G c47_L0 s k = Run G c47_B0 { s with E:=Ar [4,5,9,16] s.E } (.seq c47_L0 k):=An _ _ s k
abbrev S48_0 (x0 x8 x9 x10 : V) (B : List (Nat × List V)) (H : Hp) : St:=⟨[(0,x0),(8,x8),(9,x9),(10,x10)],[],⟨B,H⟩⟩
@[simp] theorem u48_0 (s : St) (k : K) : Run G c48_L0 s k = Run G c48_B0 { s with E:=Ar [2,3,4,7,11,42] s.E } (.seq c48_L0 k):=An _ _ s k
abbrev S49_0 (x0 x8 x9 x10 : V) (B : List (Nat × List V)) (H : Hp) : St:=⟨[(0,x0),(8,x8),(9,x9),(10,x10)],[],⟨B,H⟩⟩
@[simp] theorem u49_0 (s : St) (k : K) : Run G c49_L0 s k = Run G c49_B0 { s with E:=Ar [2,3,4,7,11,61] s.E } (.seq c49_L0 k):=An _ _ s k
abbrev S50_0 (x6 x22 x23 x24 : V) (B : List (Nat × List V)) (H : Hp) : St:=⟨[(6,x6),(22,x22),(23,x23),(24,x24)],[],⟨B,H⟩⟩
@[simp] theorem u50_0 (s : St) (k : K) : Run G c50_L0 s k = Run G c50_B0 { s with E:=Ar [0,1,4,5,8,19,25,34,42] s.E } (.seq c50_L0 k):=An _ _ s k
@[simp] theorem u50_1 (s : St) (k : K) : Run G c50_L1 s k = Run G c50_B1 { s with E:=Ar [6,10,11,22,23,24,25,50] s.E } (.seq c50_L1 k):=An _ _ s k
abbrev S51_0 (x1 x4 x5 x25 x26 x27 : V) (B : List (Nat × List V)) (H : Hp) : St:=⟨[(1,x1),(4,x4),(5,x5),(25,x25),(26,x26),(27,x27)],[],⟨B,H⟩⟩
@[simp] theorem u51_0 (s : St) (k : K) : Run G c51_L0 s k = Run G c51_B0 { s with E:=Ar [0,2,3,6,7,8,9,23,28,50,54,64,88] s.E } (.seq c51_L0 k):=An _ _ s k
abbrev S54_0 (x0 x3 x6 x7 : V) (B : List (Nat × List V)) (H : Hp) : St:=⟨[(0,x0),(3,x3),(6,x6),(7,x7)],[],⟨B,H⟩⟩
@[simp] theorem u54_0 (s : St) (k : K) : Run G c54_L0 s k = Run G c54_B0 { s with E:=Ar [2,4,8] s.E } (.seq c54_L0 k):=An _ _ s k
abbrev S55_0 (x1 x3 x23 x24 : V) (B : List (Nat × List V)) (H : Hp) : St:=⟨[(1,x1),(3,x3),(23,x23),(24,x24)],[],⟨B,H⟩⟩
@[simp] theorem u55_0 (s : St) (k : K) : Run G c55_L0 s k = Run G c55_B0 { s with E:=Ar [0,2,6,7,8,9,10,15,22,25,33] s.E } (.seq c55_L0 k):=An _ _ s k
abbrev S62_0 (x0 x1 x2 x7 : V) (B : List (Nat × List V)) (H : Hp) : St:=⟨[(0,x0),(1,x1),(2,x2),(7,x7)],[],⟨B,H⟩⟩
@[simp] theorem u62_0 (s : St) (k : K) : Run G c62_L0 s k = Run G c62_B0 { s with E:=Ar [6,11,29] s.E } (.seq c62_L0 k):=An _ _ s k
abbrev S63_0 (x0 x3 x5 : V) (B : List (Nat × List V)) (H : Hp) : St:=⟨[(0,x0),(3,x3),(5,x5)],[],⟨B,H⟩⟩
@[simp] theorem u63_0 (s : St) (k : K) : Run G c63_L0 s k = Run G c63_B0 { s with E:=Ar [1,4,9,18] s.E } (.seq c63_L0 k):=An _ _ s k
abbrev S64_0 (x0 x4 x5 : V) (B : List (Nat × List V)) (H : Hp) : St:=⟨[(0,x0),(4,x4),(5,x5)],[],⟨B,H⟩⟩
@[simp] theorem u64_0 (s : St) (k : K) : Run G c64_L0 s k = Run G c64_B0 { s with E:=Ar [2,3,11,25,39] s.E } (.seq c64_L0 k):=An _ _ s k
abbrev S64_1 (x0 x4 x6 : V) (B : List (Nat × List V)) (H : Hp) : St:=⟨[(0,x0),(4,x4),(6,x6)],[],⟨B,H⟩⟩
@[simp] theorem u64_1 (s : St) (k : K) : Run G c64_L1 s k = Run G c64_B1 { s with E:=Ar [5,11,43,51] s.E } (.seq c64_L1 k):=An _ _ s k
abbrev S64_2 (x4 x7 : V) (B : List (Nat × List V)) (H : Hp) : St:=⟨[(4,x4),(7,x7)],[],⟨B,H⟩⟩
@[simp] theorem u64_2 (s : St) (k : K) : Run G c64_L2 s k = Run G c64_B2 { s with E:=Ar [0,6,43,61,74] s.E } (.seq c64_L2 k):=An _ _ s k
abbrev S65_0 (x0 x3 : V) (B : List (Nat × List V)) (H : Hp) : St:=⟨[(0,x0),(3,x3)],[],⟨B,H⟩⟩
@[simp] theorem u65_0 (s : St) (k : K) : Run G c65_L0 s k = Run G c65_B0 { s with E:=Ar [2,4,12,16,54] s.E } (.seq c65_L0 k):=An _ _ s k
abbrev S66_0 (x1 x2 x5 x6 : V) (B : List (Nat × List V)) (H : Hp) : St:=⟨[(1,x1),(2,x2),(5,x5),(6,x6)],[],⟨B,H⟩⟩
@[simp] theorem u66_0 (s : St) (k : K) : Run G c66_L0 s k = Run G c66_B0 { s with E:=Ar [0,4,14] s.E } (.seq c66_L0 k):=An _ _ s k
abbrev S67_0 (x2 x3 x9 x10 : V) (B : List (Nat × List V)) (H : Hp) : St:=⟨[(2,x2),(3,x3),(9,x9),(10,x10)],[],⟨B,H⟩⟩
@[simp] theorem u67_0 (s : St) (k : K) : Run G c67_L0 s k = Run G c67_B0 { s with E:=Ar [0,1,6,7,8,11,12,17,24,29,42] s.E } (.seq c67_L0 k):=An _ _ s k
abbrev S68_0 (x0 x1 x5 : V) (B : List (Nat × List V)) (H : Hp) : St:=⟨[(0,x0),(1,x1),(5,x5)],[],⟨B,H⟩⟩
@[simp] theorem u68_0 (s : St) (k : K) : Run G c68_L0 s k = Run G c68_B0 { s with E:=Ar [4,15,28,50,72] s.E } (.seq c68_L0 k):=An _ _ s k
abbrev S79_0 (x4 x8 x9 x10 : V) (B : List (Nat × List V)) (H : Hp) : St:=⟨[(4,x4),(8,x8),(9,x9),(10,x10)],[],⟨B,H⟩⟩
@[simp] theorem u79_0 (s : St) (k : K) : Run G c79_L0 s k = Run G c79_B0 { s with E:=Ar [0,2,3,6,11,14,19,28] s.E } (.seq c79_L0 k):=An _ _ s k
abbrev S79_1 (x4 x7 : V) (B : List (Nat × List V)) (H : Hp) : St:=⟨[(4,x4),(7,x7)],[],⟨B,H⟩⟩
@[simp] theorem u79_1 (s : St) (k : K) : Run G c79_L1 s k = Run G c79_B1 { s with E:=Ar [8,9,10,11,42,56] s.E } (.seq c79_L1 k):=An _ _ s k
abbrev S89_0 (x3 x9 x10 x11 : V) (B : List (Nat × List V)) (H : Hp) : St:=⟨[(3,x3),(9,x9),(10,x10),(11,x11)],[],⟨B,H⟩⟩
@[simp] theorem u89_0 (s : St) (k : K) : Run G c89_L0 s k = Run G c89_B0 { s with E:=Ar [0,2,5,12] s.E } (.seq c89_L0 k):=An _ _ s k
abbrev S91_0 (x0 x1 x7 x8 : V) (B : List (Nat × List V)) (H : Hp) : St:=⟨[(0,x0),(1,x1),(7,x7),(8,x8)],[],⟨B,H⟩⟩
@[simp] theorem u91_0 (s : St) (k : K) : Run G c91_L0 s k = Run G c91_B0 { s with E:=Ar [4,5,9,16] s.E } (.seq c91_L0 k):=An _ _ s k
abbrev S93_0 (x2 x6 x7 x8 x10 x18 x19 x20 x25 x26 x27 : V) (B : List (Nat × List V)) (H : Hp) : St:=⟨[(2,x2),(6,x6),(7,x7),(8,x8),(10,x10),(18,x18),(19,x19),(20,x20),(25,x25),(26,x26),(27,x27)],[],⟨B,H⟩⟩
@[simp] theorem u93_0 (s : St) (k : K) : Run G c93_L0 s k = Run G c93_B0 { s with E:=Ar [12,13,14,21,28,44,52,55] s.E } (.seq c93_L0 k):=An _ _ s k
abbrev S93_1 (x2 x6 x7 x8 x18 x19 x20 : V) (B : List (Nat × List V)) (H : Hp) : St:=⟨[(2,x2),(6,x6),(7,x7),(8,x8),(18,x18),(19,x19),(20,x20)],[],⟨B,H⟩⟩
@[simp] theorem u93_1 (s : St) (k : K) : Run G c93_L1 s k = Run G c93_B1 { s with E:=Ar [0,1,4,5,10,25,26,27,28] s.E } (.seq c93_L1 k):=An _ _ s k
abbrev S94_0 (x0 x1 x12 x13 : V) (B : List (Nat × List V)) (H : Hp) : St:=⟨[(0,x0),(1,x1),(12,x12),(13,x13)],[],⟨B,H⟩⟩
@[simp] theorem u94_0 (s : St) (k : K) : Run G c94_L0 s k = Run G c94_B0 { s with E:=Ar [4,5,10,14,24] s.E } (.seq c94_L0 k):=An _ _ s k
abbrev S95_0 (x0 x3 x5 x6 x7 : V) (B : List (Nat × List V)) (H : Hp) : St:=⟨[(0,x0),(3,x3),(5,x5),(6,x6),(7,x7)],[],⟨B,H⟩⟩
@[simp] theorem u95_0 (s : St) (k : K) : Run G c95_L0 s k = Run G c95_B0 { s with E:=Ar [1,4,11,23] s.E } (.seq c95_L0 k):=An _ _ s k
abbrev S97_0 (x1 x2 x5 : V) (B : List (Nat × List V)) (H : Hp) : St:=⟨[(1,x1),(2,x2),(5,x5)],[],⟨B,H⟩⟩
@[simp] theorem u97_0 (s : St) (k : K) : Run G c97_L0 s k = Run G c97_B0 { s with E:=Ar [0,4,8,11,15,25] s.E } (.seq c97_L0 k):=An _ _ s k
abbrev S98_0 (x2 x7 x8 x9 x10 x11 : V) (B : List (Nat × List V)) (H : Hp) : St:=⟨[(2,x2),(7,x7),(8,x8),(9,x9),(10,x10),(11,x11)],[],⟨B,H⟩⟩
@[simp] theorem u98_0 (s : St) (k : K) : Run G c98_L0 s k = Run G c98_B0 { s with E:=Ar [0,1,4,5,6,12,13,18,27,42] s.E } (.seq c98_L0 k):=An _ _ s k
@[simp] theorem u102_0 (s : St) (k : K) : Run G c102_L0 s k = Run G c102_B0 { s with E:=Ar [0,2,5,9,14] s.E } (.seq c102_L0 k):=An _ _ s k
abbrev S116_0 (x3 x7 x8 x9 : V) (B : List (Nat × List V)) (H : Hp) : St:=⟨[(3,x3),(7,x7),(8,x8),(9,x9)],[],⟨B,H⟩⟩
@[simp] theorem u116_0 (s : St) (k : K) : Run G c116_L0 s k = Run G c116_B0 { s with E:=Ar [0,2,5,10] s.E } (.seq c116_L0 k):=An _ _ s k
abbrev S117_0 (x0 x4 x5 x7 x15 x16 x17 : V) (B : List (Nat × List V)) (H : Hp) : St:=⟨[(0,x0),(4,x4),(5,x5),(7,x7),(15,x15),(16,x16),(17,x17)],[],⟨B,H⟩⟩
@[simp] theorem u117_0 (s : St) (k : K) : Run G c117_L0 s k = Run G c117_B0 { s with E:=Ar [1,2,6,9,18] s.E } (.seq c117_L0 k):=An _ _ s k
abbrev S119_0 (x0 x2 x3 x5 x6 : V) (B : List (Nat × List V)) (H : Hp) : St:=⟨[(0,x0),(2,x2),(3,x3),(5,x5),(6,x6)],[],⟨B,H⟩⟩
@[simp] theorem u119_0 (s : St) (k : K) : Run G c119_L0 s k = Run G c119_B0 { s with E:=Ar [23,35] s.E } (.seq c119_L0 k):=An _ _ s k
abbrev S120_0 (x1 x3 x4 x5 : V) (B : List (Nat × List V)) (H : Hp) : St:=⟨[(1,x1),(3,x3),(4,x4),(5,x5)],[],⟨B,H⟩⟩
@[simp] theorem u120_0 (s : St) (k : K) : Run G c120_L0 s k = Run G c120_B0 { s with E:=Ar [25,41] s.E } (.seq c120_L0 k):=An _ _ s k
abbrev S120_1 (x1 x3 x4 : V) (B : List (Nat × List V)) (H : Hp) : St:=⟨[(1,x1),(3,x3),(4,x4)],[],⟨B,H⟩⟩
@[simp] theorem u120_1 (s : St) (k : K) : Run G c120_L1 s k = Run G c120_B1 { s with E:=Ar [0,2,5,11,41] s.E } (.seq c120_L1 k):=An _ _ s k
abbrev S120_2 (x1 x3 x6 x7 x8 : V) (B : List (Nat × List V)) (H : Hp) : St:=⟨[(1,x1),(3,x3),(6,x6),(7,x7),(8,x8)],[],⟨B,H⟩⟩
@[simp] theorem u120_2 (s : St) (k : K) : Run G c120_L2 s k = Run G c120_B2 { s with E:=Ar [9,59,63,87] s.E } (.seq c120_L2 k):=An _ _ s k
abbrev S120_3 (x1 x3 x6 x7 : V) (B : List (Nat × List V)) (H : Hp) : St:=⟨[(1,x1),(3,x3),(6,x6),(7,x7)],[],⟨B,H⟩⟩
@[simp] theorem u120_3 (s : St) (k : K) : Run G c120_L3 s k = Run G c120_B3 { s with E:=Ar [8,55,63] s.E } (.seq c120_L3 k):=An _ _ s k
abbrev S120_4 (x1 x3 x6 : V) (B : List (Nat × List V)) (H : Hp) : St:=⟨[(1,x1),(3,x3),(6,x6)],[],⟨B,H⟩⟩
@[simp] theorem u120_4 (s : St) (k : K) : Run G c120_L4 s k = Run G c120_B4 { s with E:=Ar [0,2,7,11,59] s.E } (.seq c120_L4 k):=An _ _ s k
abbrev S121_0 (x2 x3 x4 x5 x9 x10 : V) (B : List (Nat × List V)) (H : Hp) : St:=⟨[(2,x2),(3,x3),(4,x4),(5,x5),(9,x9),(10,x10)],[],⟨B,H⟩⟩
@[simp] theorem u121_0 (s : St) (k : K) : Run G c121_L0 s k = Run G c121_B0 { s with E:=Ar [0,1,8,15] s.E } (.seq c121_L0 k):=An _ _ s k
abbrev S129_0 (x0 x1 x2 x3 x4 x10 x11 : V) (B : List (Nat × List V)) (H : Hp) : St:=⟨[(0,x0),(1,x1),(2,x2),(3,x3),(4,x4),(10,x10),(11,x11)],[],⟨B,H⟩⟩
@[simp] theorem u129_0 (s : St) (k : K) : Run G c129_L0 s k = Run G c129_B0 { s with E:=Ar [12,13,14,15,16,17,18,19,20,25,32,39,56,75,80,97,125] s.E } (.seq c129_L0 k):=An _ _ s k
abbrev S131_0 (x0 x2 x4 x5 x6 x7 x8 : V) (B : List (Nat × List V)) (H : Hp) : St:=⟨[(0,x0),(2,x2),(4,x4),(5,x5),(6,x6),(7,x7),(8,x8)],[],⟨B,H⟩⟩
@[simp] theorem u131_0 (s : St) (k : K) : Run G c131_L0 s k = Run G c131_B0 { s with E:=Ar [3,16,37] s.E } (.seq c131_L0 k):=An _ _ s k
abbrev S132_0 (x1 x3 x5 x7 : V) (B : List (Nat × List V)) (H : Hp) : St:=⟨[(1,x1),(3,x3),(5,x5),(7,x7)],[],⟨B,H⟩⟩
@[simp] theorem u132_0 (s : St) (k : K) : Run G c132_L0 s k = Run G c132_B0 { s with E:=Ar [0,2,6,8,9,12,44] s.E } (.seq c132_L0 k):=An _ _ s k
abbrev S137_0 (x0 x1 x2 x3 x8 x9 : V) (B : List (Nat × List V)) (H : Hp) : St:=⟨[(0,x0),(1,x1),(2,x2),(3,x3),(8,x8),(9,x9)],[],⟨B,H⟩⟩
@[simp] theorem u137_0 (s : St) (k : K) : Run G c137_L0 s k = Run G c137_B0 { s with E:=Ar [14,34] s.E } (.seq c137_L0 k):=An _ _ s k
abbrev S137_1 (x0 x1 x2 x3 x8 : V) (B : List (Nat × List V)) (H : Hp) : St:=⟨[(0,x0),(1,x1),(2,x2),(3,x3),(8,x8)],[],⟨B,H⟩⟩
@[simp] theorem u137_1 (s : St) (k : K) : Run G c137_L1 s k = Run G c137_B1 { s with E:=Ar [9,34] s.E } (.seq c137_L1 k):=An _ _ s k
abbrev S138_0 (x0 x3 x8 x9 x10 x11 : V) (B : List (Nat × List V)) (H : Hp) : St:=⟨[(0,x0),(3,x3),(8,x8),(9,x9),(10,x10),(11,x11)],[],⟨B,H⟩⟩
@[simp] theorem u138_0 (s : St) (k : K) : Run G c138_L0 s k = Run G c138_B0 { s with E:=Ar [1,2,21] s.E } (.seq c138_L0 k):=An _ _ s k
abbrev S138_1 (x0 x3 x8 x9 x12 : V) (B : List (Nat × List V)) (H : Hp) : St:=⟨[(0,x0),(3,x3),(8,x8),(9,x9),(12,x12)],[],⟨B,H⟩⟩
@[simp] theorem u138_1 (s : St) (k : K) : Run G c138_L1 s k = Run G c138_B1 { s with E:=Ar [10,11,21,33] s.E } (.seq c138_L1 k):=An _ _ s k
abbrev S139_0 (x0 x1 x8 x9 x10 x11 : V) (B : List (Nat × List V)) (H : Hp) : St:=⟨[(0,x0),(1,x1),(8,x8),(9,x9),(10,x10),(11,x11)],[],⟨B,H⟩⟩
@[simp] theorem u139_0 (s : St) (k : K) : Run G c139_L0 s k = Run G c139_B0 { s with E:=Ar [2,3,12,17,35,45] s.E } (.seq c139_L0 k):=An _ _ s k
abbrev S141_0 (x0 x8 x9 : V) (B : List (Nat × List V)) (H : Hp) : St:=⟨[(0,x0),(8,x8),(9,x9)],[],⟨B,H⟩⟩
@[simp] theorem u141_0 (s : St) (k : K) : Run G c141_L0 s k = Run G c141_B0 { s with E:=Ar [1,2,3,15] s.E } (.seq c141_L0 k):=An _ _ s k
abbrev S142_0 (x0 x1 x2 x3 x9 x10 : V) (B : List (Nat × List V)) (H : Hp) : St:=⟨[(0,x0),(1,x1),(2,x2),(3,x3),(9,x9),(10,x10)],[],⟨B,H⟩⟩
@[simp] theorem u142_0 (s : St) (k : K) : Run G c142_L0 s k = Run G c142_B0 { s with E:=Ar [16,36] s.E } (.seq c142_L0 k):=An _ _ s k
abbrev S142_1 (x0 x1 x2 x3 x9 x10 x11 : V) (B : List (Nat × List V)) (H : Hp) : St:=⟨[(0,x0),(1,x1),(2,x2),(3,x3),(9,x9),(10,x10),(11,x11)],[],⟨B,H⟩⟩
@[simp] theorem u142_1 (s : St) (k : K) : Run G c142_L1 s k = Run G c142_B1 { s with E:=Ar [36,41,45,65,69,84] s.E } (.seq c142_L1 k):=An _ _ s k
abbrev S142_2 (x0 x1 x2 x3 x9 x10 x12 : V) (B : List (Nat × List V)) (H : Hp) : St:=⟨[(0,x0),(1,x1),(2,x2),(3,x3),(9,x9),(10,x10),(12,x12)],[],⟨B,H⟩⟩
@[simp] theorem u142_2 (s : St) (k : K) : Run G c142_L2 s k = Run G c142_B2 { s with E:=Ar [11,36,41,45,65,69,84,104,109,124] s.E } (.seq c142_L2 k):=An _ _ s k
abbrev S142_3 (x0 x1 x2 x3 x9 x10 : V) (B : List (Nat × List V)) (H : Hp) : St:=⟨[(0,x0),(1,x1),(2,x2),(3,x3),(9,x9),(10,x10)],[],⟨B,H⟩⟩
@[simp] theorem u142_3 (s : St) (k : K) : Run G c142_L3 s k = Run G c142_B3 { s with E:=Ar [8,11,12,36,41,45,65,69,84,104,109,124] s.E } (.seq c142_L3 k):=An _ _ s k
abbrev S143_0 (x0 x1 x4 x11 x12 : V) (B : List (Nat × List V)) (H : Hp) : St:=⟨[(0,x0),(1,x1),(4,x4),(11,x11),(12,x12)],[],⟨B,H⟩⟩
@[simp] theorem u143_0 (s : St) (k : K) : Run G c143_L0 s k = Run G c143_B0 { s with E:=Ar [2,3,10,47,65,70] s.E } (.seq c143_L0 k):=An _ _ s k
abbrev S143_1 (x0 x1 x4 x11 x12 : V) (B : List (Nat × List V)) (H : Hp) : St:=⟨[(0,x0),(1,x1),(4,x4),(11,x11),(12,x12)],[],⟨B,H⟩⟩
@[simp] theorem u143_1 (s : St) (k : K) : Run G c143_L1 s k = Run G c143_B1 { s with E:=Ar [47,65] s.E } (.seq c143_L1 k):=An _ _ s k
abbrev S143_2 (x0 x1 x4 x11 x12 : V) (B : List (Nat × List V)) (H : Hp) : St:=⟨[(0,x0),(1,x1),(4,x4),(11,x11),(12,x12)],[],⟨B,H⟩⟩
@[simp] theorem u143_2 (s : St) (k : K) : Run G c143_L2 s k = Run G c143_B2 { s with E:=Ar [2,3,10,47,65,70] s.E } (.seq c143_L2 k):=An _ _ s k
abbrev S144_0 (x0 x1 x4 x12 x13 : V) (B : List (Nat × List V)) (H : Hp) : St:=⟨[(0,x0),(1,x1),(4,x4),(12,x12),(13,x13)],[],⟨B,H⟩⟩
@[simp] theorem u144_0 (s : St) (k : K) : Run G c144_L0 s k = Run G c144_B0 { s with E:=Ar [2,3,10,11,47] s.E } (.seq c144_L0 k):=An _ _ s k
abbrev S144_1 (x0 x1 x4 x12 x13 : V) (B : List (Nat × List V)) (H : Hp) : St:=⟨[(0,x0),(1,x1),(4,x4),(12,x12),(13,x13)],[],⟨B,H⟩⟩
@[simp] theorem u144_1 (s : St) (k : K) : Run G c144_L1 s k = Run G c144_B1 { s with E:=Ar [47,66] s.E } (.seq c144_L1 k):=An _ _ s k
abbrev S144_2 (x0 x1 x4 x12 x13 : V) (B : List (Nat × List V)) (H : Hp) : St:=⟨[(0,x0),(1,x1),(4,x4),(12,x12),(13,x13)],[],⟨B,H⟩⟩
@[simp] theorem u144_2 (s : St) (k : K) : Run G c144_L2 s k = Run G c144_B2 { s with E:=Ar [66,71,120,139,144] s.E } (.seq c144_L2 k):=An _ _ s k
abbrev S144_3 (x0 x1 x4 x12 x13 : V) (B : List (Nat × List V)) (H : Hp) : St:=⟨[(0,x0),(1,x1),(4,x4),(12,x12),(13,x13)],[],⟨B,H⟩⟩
@[simp] theorem u144_3 (s : St) (k : K) : Run G c144_L3 s k = Run G c144_B3 { s with E:=Ar [120,139] s.E } (.seq c144_L3 k):=An _ _ s k
abbrev S144_4 (x0 x1 x4 x12 x13 : V) (B : List (Nat × List V)) (H : Hp) : St:=⟨[(0,x0),(1,x1),(4,x4),(12,x12),(13,x13)],[],⟨B,H⟩⟩
@[simp] theorem u144_4 (s : St) (k : K) : Run G c144_L4 s k = Run G c144_B4 { s with E:=Ar [66,71,120,139,144] s.E } (.seq c144_L4 k):=An _ _ s k
abbrev S153_0 (x0 x2 x3 x4 x10 : V) (B : List (Nat × List V)) (H : Hp) : St:=⟨[(0,x0),(2,x2),(3,x3),(4,x4),(10,x10)],[],⟨B,H⟩⟩
@[simp] theorem u153_0 (s : St) (k : K) : Run G c153_L0 s k = Run G c153_B0 { s with E:=Ar [1,11,18,40,58] s.E } (.seq c153_L0 k):=An _ _ s k
end Go.Mx.Tryz
