/- The loops of this seat, one round at a time. -/
import Derived.Test.YtbpkmkgnkpeefaaGreatDoorSeat
namespace Go.Mx.Tryz
abbrev S7_0 (x1 x30 x31 x32 : V) (B : List (Nat × List V)) (H : Hp) : St:=⟨[(1,x1),(30,x30),(31,x31),(32,x32)],[],⟨B,H⟩⟩
@[simp] theorem u7_0 (s : St) (k : K) : Run G c7_L0 s k = Run G c7_B0 { s with E:=dropE [0,2,3,4,12,15,24,33,50] s.E } (.seq c7_L0 k):=w_loop _ _ s k
abbrev S7_1 (x5 x6 x9 x62 x63 x64 x75 x76 : V) (B : List (Nat × List V)) (H : Hp) : St:=⟨[(5,x5),(6,x6),(9,x9),(62,x62),(63,x63),(64,x64),(75,x75),(76,x76)],[],⟨B,H⟩⟩
@[simp] theorem u7_1 (s : St) (k : K) : Run G c7_L1 s k = Run G c7_B1 { s with E:=dropE [8,11,65,77,84] s.E } (.seq c7_L1 k):=w_loop _ _ s k
abbrev S7_2 (x5 x6 x62 x63 x64 : V) (B : List (Nat × List V)) (H : Hp) : St:=⟨[(5,x5),(6,x6),(62,x62),(63,x63),(64,x64)],[],⟨B,H⟩⟩
@[simp] theorem u7_2 (s : St) (k : K) : Run G c7_L2 s k = Run G c7_B2 { s with E:=dropE [1,9,30,31,32,33,75,76,77] s.E } (.seq c7_L2 k):=w_loop _ _ s k
abbrev S10_0 (x1 x16 x17 : V) (B : List (Nat × List V)) (H : Hp) : St:=⟨[(1,x1),(16,x16),(17,x17)],[],⟨B,H⟩⟩
@[simp] theorem u10_0 (s : St) (k : K) : Run G c10_L0 s k = Run G c10_B0 { s with E:=dropE [0,2,3,13,18,27] s.E } (.seq c10_L0 k):=w_loop _ _ s k
abbrev S12_0 (x1 x3 x4 : V) (B : List (Nat × List V)) (H : Hp) : St:=⟨[(1,x1),(3,x3),(4,x4)],[],⟨B,H⟩⟩
@[simp] theorem u12_0 (s : St) (k : K) : Run G c12_L0 s k = Run G c12_B0 { s with E:=dropE [0,2,26,30,36,39,60] s.E } (.seq c12_L0 k):=w_loop _ _ s k
abbrev S12_1 (x1 x3 x5 : V) (B : List (Nat × List V)) (H : Hp) : St:=⟨[(1,x1),(3,x3),(5,x5)],[],⟨B,H⟩⟩
@[simp] theorem u12_1 (s : St) (k : K) : Run G c12_L1 s k = Run G c12_B1 { s with E:=dropE [4,39,63,75] s.E } (.seq c12_L1 k):=w_loop _ _ s k
abbrev S12_2 (x1 x3 x6 x7 x8 : V) (B : List (Nat × List V)) (H : Hp) : St:=⟨[(1,x1),(3,x3),(6,x6),(7,x7),(8,x8)],[],⟨B,H⟩⟩
@[simp] theorem u12_2 (s : St) (k : K) : Run G c12_L2 s k = Run G c12_B2 { s with E:=dropE [9,78,89,131] s.E } (.seq c12_L2 k):=w_loop _ _ s k
abbrev S12_3 (x1 x3 x6 : V) (B : List (Nat × List V)) (H : Hp) : St:=⟨[(1,x1),(3,x3),(6,x6)],[],⟨B,H⟩⟩
@[simp] theorem u12_3 (s : St) (k : K) : Run G c12_L3 s k = Run G c12_B3 { s with E:=dropE [5,7,8,63,89] s.E } (.seq c12_L3 k):=w_loop _ _ s k
abbrev S12_4 (x1 x3 x10 x11 : V) (B : List (Nat × List V)) (H : Hp) : St:=⟨[(1,x1),(3,x3),(10,x10),(11,x11)],[],⟨B,H⟩⟩
@[simp] theorem u12_4 (s : St) (k : K) : Run G c12_L4 s k = Run G c12_B4 { s with E:=dropE [145,150,163] s.E } (.seq c12_L4 k):=w_loop _ _ s k
abbrev S12_5 (x1 x3 x10 : V) (B : List (Nat × List V)) (H : Hp) : St:=⟨[(1,x1),(3,x3),(10,x10)],[],⟨B,H⟩⟩
@[simp] theorem u12_5 (s : St) (k : K) : Run G c12_L5 s k = Run G c12_B5 { s with E:=dropE [6,11,78,142,150] s.E } (.seq c12_L5 k):=w_loop _ _ s k
abbrev S12_6 (x1 x3 x12 x13 x14 : V) (B : List (Nat × List V)) (H : Hp) : St:=⟨[(1,x1),(3,x3),(12,x12),(13,x13),(14,x14)],[],⟨B,H⟩⟩
@[simp] theorem u12_6 (s : St) (k : K) : Run G c12_L6 s k = Run G c12_B6 { s with E:=dropE [173,194] s.E } (.seq c12_L6 k):=w_loop _ _ s k
abbrev S12_7 (x1 x3 x12 x13 : V) (B : List (Nat × List V)) (H : Hp) : St:=⟨[(1,x1),(3,x3),(12,x12),(13,x13)],[],⟨B,H⟩⟩
@[simp] theorem u12_7 (s : St) (k : K) : Run G c12_L7 s k = Run G c12_B7 { s with E:=dropE [10,14,145,194] s.E } (.seq c12_L7 k):=w_loop _ _ s k
abbrev S12_8 (x1 x3 x12 x15 : V) (B : List (Nat × List V)) (H : Hp) : St:=⟨[(1,x1),(3,x3),(12,x12),(15,x15)],[],⟨B,H⟩⟩
@[simp] theorem u12_8 (s : St) (k : K) : Run G c12_L8 s k = Run G c12_B8 { s with E:=dropE [13,173,210,217] s.E } (.seq c12_L8 k):=w_loop _ _ s k
abbrev S13_0 (x1 x3 x4 x5 x6 : V) (B : List (Nat × List V)) (H : Hp) : St:=⟨[(1,x1),(3,x3),(4,x4),(5,x5),(6,x6)],[],⟨B,H⟩⟩
@[simp] theorem u13_0 (s : St) (k : K) : Run G c13_L0 s k = Run G c13_B0 { s with E:=dropE [7,35,61,65,74,83,103] s.E } (.seq c13_L0 k):=w_loop _ _ s k
abbrev S13_1 (x1 x3 x4 : V) (B : List (Nat × List V)) (H : Hp) : St:=⟨[(1,x1),(3,x3),(4,x4)],[],⟨B,H⟩⟩
@[simp] theorem u13_1 (s : St) (k : K) : Run G c13_L1 s k = Run G c13_B1 { s with E:=dropE [0,2,5,6,32,65] s.E } (.seq c13_L1 k):=w_loop _ _ s k
abbrev S14_0 (x2 x3 x5 : V) (B : List (Nat × List V)) (H : Hp) : St:=⟨[(2,x2),(3,x3),(5,x5)],[],⟨B,H⟩⟩
@[simp] theorem u14_0 (s : St) (k : K) : Run G c14_L0 s k = Run G c14_B0 { s with E:=dropE [0,1,4,32,37,50] s.E } (.seq c14_L0 k):=w_loop _ _ s k
abbrev S14_1 (x2 x3 x6 x7 x8 x9 : V) (B : List (Nat × List V)) (H : Hp) : St:=⟨[(2,x2),(3,x3),(6,x6),(7,x7),(8,x8),(9,x9)],[],⟨B,H⟩⟩
@[simp] theorem u14_1 (s : St) (k : K) : Run G c14_L1 s k = Run G c14_B1 { s with E:=dropE [55,59,60,61,62,64,65,66,67,81,86,99] s.E } (.seq c14_L1 k):=w_loop _ _ s k
abbrev S14_2 (x2 x3 x6 : V) (B : List (Nat × List V)) (H : Hp) : St:=⟨[(2,x2),(3,x3),(6,x6)],[],⟨B,H⟩⟩
@[simp] theorem u14_2 (s : St) (k : K) : Run G c14_L2 s k = Run G c14_B2 { s with E:=dropE [5,7,8,9,37,86] s.E } (.seq c14_L2 k):=w_loop _ _ s k
abbrev S17_0 (x2 x3 x5 x31 x32 x33 : V) (B : List (Nat × List V)) (H : Hp) : St:=⟨[(2,x2),(3,x3),(5,x5),(31,x31),(32,x32),(33,x33)],[],⟨B,H⟩⟩
@[simp] theorem u17_0 (s : St) (k : K) : Run G c17_L0 s k = Run G c17_B0 { s with E:=dropE [0,1,4,7,12,16,25,34,45] s.E } (.seq c17_L0 k):=w_loop _ _ s k
abbrev S17_1 (x2 x3 x50 x51 x52 : V) (B : List (Nat × List V)) (H : Hp) : St:=⟨[(2,x2),(3,x3),(50,x50),(51,x51),(52,x52)],[],⟨B,H⟩⟩
@[simp] theorem u17_1 (s : St) (k : K) : Run G c17_L1 s k = Run G c17_B1 { s with E:=dropE [5,8,9,31,32,33,34,53,64] s.E } (.seq c17_L1 k):=w_loop _ _ s k
abbrev S22_0 (x2 x3 x54 x55 x56 : V) (B : List (Nat × List V)) (H : Hp) : St:=⟨[(2,x2),(3,x3),(54,x54),(55,x55),(56,x56)],[],⟨B,H⟩⟩
@[simp] theorem u22_0 (s : St) (k : K) : Run G c22_L0 s k = Run G c22_B0 { s with E:=dropE [0,1,4,5,7,9,11,13,14,18,41,52,57,69] s.E } (.seq c22_L0 k):=w_loop _ _ s k
abbrev S24_0 (x0 x3 x4 : V) (B : List (Nat × List V)) (H : Hp) : St:=⟨[(0,x0),(3,x3),(4,x4)],[],⟨B,H⟩⟩
@[simp] theorem u24_0 (s : St) (k : K) : Run G c24_L0 s k = Run G c24_B0 { s with E:=dropE [2,7,15] s.E } (.seq c24_L0 k):=w_loop _ _ s k
abbrev S25_0 (x0 x3 x4 : V) (B : List (Nat × List V)) (H : Hp) : St:=⟨[(0,x0),(3,x3),(4,x4)],[],⟨B,H⟩⟩
@[simp] theorem u25_0 (s : St) (k : K) : Run G c25_L0 s k = Run G c25_B0 { s with E:=dropE [2,7,15] s.E } (.seq c25_L0 k):=w_loop _ _ s k
abbrev S29_0 (x0 x13 x14 x15 : V) (B : List (Nat × List V)) (H : Hp) : St:=⟨[(0,x0),(13,x13),(14,x14),(15,x15)],[],⟨B,H⟩⟩
@[simp] theorem u29_0 (s : St) (k : K) : Run G c29_L0 s k = Run G c29_B0 { s with E:=dropE [2,3,4,12,16,51] s.E } (.seq c29_L0 k):=w_loop _ _ s k
abbrev S33_0 (x1 x3 x4 x8 x9 x10 x16 x17 x18 : V) (B : List (Nat × List V)) (H : Hp) : St:=⟨[(1,x1),(3,x3),(4,x4),(8,x8),(9,x9),(10,x10),(16,x16),(17,x17),(18,x18)],[],⟨B,H⟩⟩
@[simp] theorem u33_0 (s : St) (k : K) : Run G c33_L0 s k = Run G c33_B0 { s with E:=dropE [6,11,19,22,25,35] s.E } (.seq c33_L0 k):=w_loop _ _ s k
abbrev S33_1 (x1 x8 x9 x10 : V) (B : List (Nat × List V)) (H : Hp) : St:=⟨[(1,x1),(8,x8),(9,x9),(10,x10)],[],⟨B,H⟩⟩
@[simp] theorem u33_1 (s : St) (k : K) : Run G c33_L1 s k = Run G c33_B1 { s with E:=dropE [0,2,3,4,16,17,18,19] s.E } (.seq c33_L1 k):=w_loop _ _ s k
abbrev S34_0 (x3 x9 x10 x11 : V) (B : List (Nat × List V)) (H : Hp) : St:=⟨[(3,x3),(9,x9),(10,x10),(11,x11)],[],⟨B,H⟩⟩
@[simp] theorem u34_0 (s : St) (k : K) : Run G c34_L0 s k = Run G c34_B0 { s with E:=dropE [0,1,2,5,6,12,25] s.E } (.seq c34_L0 k):=w_loop _ _ s k
abbrev S35_0 (x1 x3 x4 x40 x41 x42 : V) (B : List (Nat × List V)) (H : Hp) : St:=⟨[(1,x1),(3,x3),(4,x4),(40,x40),(41,x41),(42,x42)],[],⟨B,H⟩⟩
@[simp] theorem u35_0 (s : St) (k : K) : Run G c35_L0 s k = Run G c35_B0 { s with E:=dropE [6,20,27,34,43] s.E } (.seq c35_L0 k):=w_loop _ _ s k
abbrev S35_1 (x1 x3 x4 : V) (B : List (Nat × List V)) (H : Hp) : St:=⟨[(1,x1),(3,x3),(4,x4)],[],⟨B,H⟩⟩
@[simp] theorem u35_1 (s : St) (k : K) : Run G c35_L1 s k = Run G c35_B1 { s with E:=dropE [0,2,20,27,34,40,41,42,43] s.E } (.seq c35_L1 k):=w_loop _ _ s k
abbrev S38_0 (x0 x3 : V) (B : List (Nat × List V)) (H : Hp) : St:=⟨[(0,x0),(3,x3)],[],⟨B,H⟩⟩
@[simp] theorem u38_0 (s : St) (k : K) : Run G c38_L0 s k = Run G c38_B0 { s with E:=dropE [2,4,12,16,54] s.E } (.seq c38_L0 k):=w_loop _ _ s k
abbrev S39_0 (x2 x3 x5 : V) (B : List (Nat × List V)) (H : Hp) : St:=⟨[(2,x2),(3,x3),(5,x5)],[],⟨B,H⟩⟩
@[simp] theorem u39_0 (s : St) (k : K) : Run G c39_L0 s k = Run G c39_B0 { s with E:=dropE [0,1,4,19,24,37] s.E } (.seq c39_L0 k):=w_loop _ _ s k
abbrev S40_0 (x0 x3 x4 x5 : V) (B : List (Nat × List V)) (H : Hp) : St:=⟨[(0,x0),(3,x3),(4,x4),(5,x5)],[],⟨B,H⟩⟩
@[simp] theorem u40_0 (s : St) (k : K) : Run G c40_L0 s k = Run G c40_B0 { s with E:=dropE [2,11] s.E } (.seq c40_L0 k):=w_loop _ _ s k
abbrev S58_0 (x1 x4 x25 x26 x27 : V) (B : List (Nat × List V)) (H : Hp) : St:=⟨[(1,x1),(4,x4),(25,x25),(26,x26),(27,x27)],[],⟨B,H⟩⟩
@[simp] theorem u58_0 (s : St) (k : K) : Run G c58_L0 s k = Run G c58_B0 { s with E:=dropE [0,2,3,5,6,7,8,9,23,28,58] s.E } (.seq c58_L0 k):=w_loop _ _ s k
abbrev S60_0 (x0 x1 x7 x8 : V) (B : List (Nat × List V)) (H : Hp) : St:=⟨[(0,x0),(1,x1),(7,x7),(8,x8)],[],⟨B,H⟩⟩
@[simp] theorem u60_0 (s : St) (k : K) : Run G c60_L0 s k = Run G c60_B0 { s with E:=dropE [4,5,9,16] s.E } (.seq c60_L0 k):=w_loop _ _ s k
abbrev S62_0 (x1 x2 x15 x16 x17 : V) (B : List (Nat × List V)) (H : Hp) : St:=⟨[(1,x1),(2,x2),(15,x15),(16,x16),(17,x17)],[],⟨B,H⟩⟩
@[simp] theorem u62_0 (s : St) (k : K) : Run G c62_L0 s k = Run G c62_B0 { s with E:=dropE [0,6,7,8,9,14,18,30] s.E } (.seq c62_L0 k):=w_loop _ _ s k
abbrev S64_0 (x0 x1 x12 x13 : V) (B : List (Nat × List V)) (H : Hp) : St:=⟨[(0,x0),(1,x1),(12,x12),(13,x13)],[],⟨B,H⟩⟩
@[simp] theorem u64_0 (s : St) (k : K) : Run G c64_L0 s k = Run G c64_B0 { s with E:=dropE [4,5,10,14,24] s.E } (.seq c64_L0 k):=w_loop _ _ s k
abbrev S65_0 (x1 x4 x5 x47 x48 x49 x74 x75 x76 : V) (B : List (Nat × List V)) (H : Hp) : St:=⟨[(1,x1),(4,x4),(5,x5),(47,x47),(48,x48),(49,x49),(74,x74),(75,x75),(76,x76)],[],⟨B,H⟩⟩
@[simp] theorem u65_0 (s : St) (k : K) : Run G c65_L0 s k = Run G c65_B0 { s with E:=dropE [7,50,72,77,114] s.E } (.seq c65_L0 k):=w_loop _ _ s k
abbrev S65_1 (x1 x47 x48 x49 : V) (B : List (Nat × List V)) (H : Hp) : St:=⟨[(1,x1),(47,x47),(48,x48),(49,x49)],[],⟨B,H⟩⟩
@[simp] theorem u65_1 (s : St) (k : K) : Run G c65_L1 s k = Run G c65_B1 { s with E:=dropE [0,2,3,4,5,45,74,75,76,77] s.E } (.seq c65_L1 k):=w_loop _ _ s k
abbrev S66_0 (x1 x2 x4 x5 x6 x8 x9 x15 x16 x17 x24 x25 x26 : V) (B : List (Nat × List V)) (H : Hp) : St:=⟨[(1,x1),(2,x2),(4,x4),(5,x5),(6,x6),(8,x8),(9,x9),(15,x15),(16,x16),(17,x17),(24,x24),(25,x25),(26,x26)],[],⟨B,H⟩⟩
@[simp] theorem u66_0 (s : St) (k : K) : Run G c66_L0 s k = Run G c66_B0 { s with E:=dropE [10,11,18,27,33] s.E } (.seq c66_L0 k):=w_loop _ _ s k
abbrev S66_1 (x1 x2 x4 x5 x6 x15 x16 x17 : V) (B : List (Nat × List V)) (H : Hp) : St:=⟨[(1,x1),(2,x2),(4,x4),(5,x5),(6,x6),(15,x15),(16,x16),(17,x17)],[],⟨B,H⟩⟩
@[simp] theorem u66_1 (s : St) (k : K) : Run G c66_L1 s k = Run G c66_B1 { s with E:=dropE [0,8,9,24,25,26,27] s.E } (.seq c66_L1 k):=w_loop _ _ s k
abbrev S69_0 (x0 x3 x4 x5 x6 x7 : V) (B : List (Nat × List V)) (H : Hp) : St:=⟨[(0,x0),(3,x3),(4,x4),(5,x5),(6,x6),(7,x7)],[],⟨B,H⟩⟩
@[simp] theorem u69_0 (s : St) (k : K) : Run G c69_L0 s k = Run G c69_B0 { s with E:=dropE [8,14,24,40] s.E } (.seq c69_L0 k):=w_loop _ _ s k
abbrev S69_1 (x0 x3 x4 x5 x6 x9 x10 : V) (B : List (Nat × List V)) (H : Hp) : St:=⟨[(0,x0),(3,x3),(4,x4),(5,x5),(6,x6),(9,x9),(10,x10)],[],⟨B,H⟩⟩
@[simp] theorem u69_1 (s : St) (k : K) : Run G c69_L1 s k = Run G c69_B1 { s with E:=dropE [7,24,53,74] s.E } (.seq c69_L1 k):=w_loop _ _ s k
abbrev S69_2 (x0 x3 x4 x5 : V) (B : List (Nat × List V)) (H : Hp) : St:=⟨[(0,x0),(3,x3),(4,x4),(5,x5)],[],⟨B,H⟩⟩
@[simp] theorem u69_2 (s : St) (k : K) : Run G c69_L2 s k = Run G c69_B2 { s with E:=dropE [2,6,9,10,53] s.E } (.seq c69_L2 k):=w_loop _ _ s k
abbrev S70_0 (x0 x1 x2 x3 x4 x11 x12 : V) (B : List (Nat × List V)) (H : Hp) : St:=⟨[(0,x0),(1,x1),(2,x2),(3,x3),(4,x4),(11,x11),(12,x12)],[],⟨B,H⟩⟩
@[simp] theorem u70_0 (s : St) (k : K) : Run G c70_L0 s k = Run G c70_B0 { s with E:=dropE [10,13,18,33,46] s.E } (.seq c70_L0 k):=w_loop _ _ s k
abbrev S71_0 (x2 x5 x12 x13 x14 : V) (B : List (Nat × List V)) (H : Hp) : St:=⟨[(2,x2),(5,x5),(12,x12),(13,x13),(14,x14)],[],⟨B,H⟩⟩
@[simp] theorem u71_0 (s : St) (k : K) : Run G c71_L0 s k = Run G c71_B0 { s with E:=dropE [0,1,4,7,15] s.E } (.seq c71_L0 k):=w_loop _ _ s k
abbrev S100_0 (x0 x12 x13 x27 x28 : V) (B : List (Nat × List V)) (H : Hp) : St:=⟨[(0,x0),(12,x12),(13,x13),(27,x27),(28,x28)],[],⟨B,H⟩⟩
@[simp] theorem u100_0 (s : St) (k : K) : Run G c100_L0 s k = Run G c100_B0 { s with E:=dropE [1,2,3,4,10,11,14,15,21,29,40] s.E } (.seq c100_L0 k):=w_loop _ _ s k
abbrev S101_0 (x3 x6 x7 x8 : V) (B : List (Nat × List V)) (H : Hp) : St:=⟨[(3,x3),(6,x6),(7,x7),(8,x8)],[],⟨B,H⟩⟩
@[simp] theorem u101_0 (s : St) (k : K) : Run G c101_L0 s k = Run G c101_B0 { s with E:=dropE [0,2,5,9,14] s.E } (.seq c101_L0 k):=w_loop _ _ s k
abbrev S103_0 (x0 x1 x12 x13 : V) (B : List (Nat × List V)) (H : Hp) : St:=⟨[(0,x0),(1,x1),(12,x12),(13,x13)],[],⟨B,H⟩⟩
@[simp] theorem u103_0 (s : St) (k : K) : Run G c103_L0 s k = Run G c103_B0 { s with E:=dropE [4,5,10,14,24] s.E } (.seq c103_L0 k):=w_loop _ _ s k
abbrev S105_0 (x0 x1 x2 x7 x14 x15 x16 : V) (B : List (Nat × List V)) (H : Hp) : St:=⟨[(0,x0),(1,x1),(2,x2),(7,x7),(14,x14),(15,x15),(16,x16)],[],⟨B,H⟩⟩
@[simp] theorem u105_0 (s : St) (k : K) : Run G c105_L0 s k = Run G c105_B0 { s with E:=dropE [6,9,17] s.E } (.seq c105_L0 k):=w_loop _ _ s k
abbrev S108_0 (x0 x1 x5 : V) (B : List (Nat × List V)) (H : Hp) : St:=⟨[(0,x0),(1,x1),(5,x5)],[],⟨B,H⟩⟩
@[simp] theorem u108_0 (s : St) (k : K) : Run G c108_L0 s k = Run G c108_B0 { s with E:=dropE [4,10,14,25] s.E } (.seq c108_L0 k):=w_loop _ _ s k
abbrev S134_0 (x0 x1 x3 x4 x7 x33 x34 x35 : V) (B : List (Nat × List V)) (H : Hp) : St:=⟨[(0,x0),(1,x1),(3,x3),(4,x4),(7,x7),(33,x33),(34,x34),(35,x35)],[],⟨B,H⟩⟩
@[simp] theorem u134_0 (s : St) (k : K) : Run G c134_L0 s k = Run G c134_B0 { s with E:=dropE [2,6,8,9,14,20,21,22,24,25,26,27,29,30,31,36,42] s.E } (.seq c134_L0 k):=w_loop _ _ s k
abbrev S175_0 (x0 x1 x4 : V) (B : List (Nat × List V)) (H : Hp) : St:=⟨[(0,x0),(1,x1),(4,x4)],[],⟨B,H⟩⟩
@[simp] theorem u175_0 (s : St) (k : K) : Run G c175_L0 s k = Run G c175_B0 { s with E:=dropE [5,6,7,8,9,10,11,20] s.E } (.seq c175_L0 k):=w_loop _ _ s k
end Go.Mx.Tryz
