/- The loops of this seat, one round at a time. -/
import Derived.Test.YtlhjjcaifenlbaaGreatDoorSeat
namespace Go.Mx.Tryz
abbrev S10_0 (x1 x16 x17 : V) (B : List (Nat × List V)) (H : Hp) : St:=⟨[(1,x1),(16,x16),(17,x17)],[],⟨B,H⟩⟩
@[simp] theorem u10_0 (s : St) (k : K) : Run G c10_L0 s k = Run G c10_B0 { s with E:=Aw [0,2,3,13,18,27] s.E } (.seq c10_L0 k):=Ar _ _ s k
abbrev S11_0 (x1 x33 x34 : V) (B : List (Nat × List V)) (H : Hp) : St:=⟨[(1,x1),(33,x33),(34,x34)],[],⟨B,H⟩⟩
@[simp] theorem u11_0 (s : St) (k : K) : Run G c11_L0 s k = Run G c11_B0 { s with E:=Aw [0,2,3,30,35,64] s.E } (.seq c11_L0 k):=Ar _ _ s k
abbrev S11_1 (x1 x68 x69 : V) (B : List (Nat × List V)) (H : Hp) : St:=⟨[(1,x1),(68,x68),(69,x69)],[],⟨B,H⟩⟩
@[simp] theorem u11_1 (s : St) (k : K) : Run G c11_L1 s k = Run G c11_B1 { s with E:=Aw [4,33,34,35,70,87] s.E } (.seq c11_L1 k):=Ar _ _ s k
abbrev S13_0 (x8 x20 x21 x22 : V) (B : List (Nat × List V)) (H : Hp) : St:=⟨[(8,x8),(20,x20),(21,x21),(22,x22)],[],⟨B,H⟩⟩
@[simp] theorem u13_0 (s : St) (k : K) : Run G c13_L0 s k = Run G c13_B0 { s with E:=Aw [0,1,2,3,4,5,6,7,10,18,23] s.E } (.seq c13_L0 k):=Ar _ _ s k
abbrev S14_0 (x2 x3 x7 : V) (B : List (Nat × List V)) (H : Hp) : St:=⟨[(2,x2),(3,x3),(7,x7)],[],⟨B,H⟩⟩
@[simp] theorem u14_0 (s : St) (k : K) : Run G c14_L0 s k = Run G c14_B0 { s with E:=Aw [0,1,4,5,6,16,26,34,40,46,56] s.E } (.seq c14_L0 k):=Ar _ _ s k
abbrev S14_1 (x2 x3 x8 x9 : V) (B : List (Nat × List V)) (H : Hp) : St:=⟨[(2,x2),(3,x3),(8,x8),(9,x9)],[],⟨B,H⟩⟩
@[simp] theorem u14_1 (s : St) (k : K) : Run G c14_L1 s k = Run G c14_B1 { s with E:=Aw [7,10,11,46,61,77] s.E } (.seq c14_L1 k):=Ar _ _ s k
abbrev S14_2 (x8 x12 x13 : V) (B : List (Nat × List V)) (H : Hp) : St:=⟨[(8,x8),(12,x12),(13,x13)],[],⟨B,H⟩⟩
@[simp] theorem u14_2 (s : St) (k : K) : Run G c14_L2 s k = Run G c14_B2 { s with E:=Aw [85,90,116] s.E } (.seq c14_L2 k):=Ar _ _ s k
abbrev S14_3 (x8 x12 : V) (B : List (Nat × List V)) (H : Hp) : St:=⟨[(8,x8),(12,x12)],[],⟨B,H⟩⟩
@[simp] theorem u14_3 (s : St) (k : K) : Run G c14_L3 s k = Run G c14_B3 { s with E:=Aw [2,3,9,13,61,90] s.E } (.seq c14_L3 k):=Ar _ _ s k
abbrev S18_0 (x3 x4 x5 x6 x7 x10 x15 x80 x81 x82 : V) (B : List (Nat × List V)) (H : Hp) : St:=⟨[(3,x3),(4,x4),(5,x5),(6,x6),(7,x7),(10,x10),(15,x15),(80,x80),(81,x81),(82,x82)],[],⟨B,H⟩⟩
@[simp] theorem u18_0 (s : St) (k : K) : Run G c18_L0 s k = Run G c18_B0 { s with E:=Aw [0,1,2,11,12,13,14,17,19,27,34,37,44,60,62,63,65,66,67,69,70,72,73,74,75,77,78,83,105] s.E } (.seq c18_L0 k):=Ar _ _ s k
abbrev S19_0 (x3 x4 x5 x6 x7 x10 x14 x15 : V) (B : List (Nat × List V)) (H : Hp) : St:=⟨[(3,x3),(4,x4),(5,x5),(6,x6),(7,x7),(10,x10),(14,x14),(15,x15)],[],⟨B,H⟩⟩
@[simp] theorem u19_0 (s : St) (k : K) : Run G c19_L0 s k = Run G c19_B0 { s with E:=Aw [0,1,2,11,12,13,16,19,20,30,37,44,59,86,109] s.E } (.seq c19_L0 k):=Ar _ _ s k
abbrev S20_0 (x2 x3 x40 x41 : V) (B : List (Nat × List V)) (H : Hp) : St:=⟨[(2,x2),(3,x3),(40,x40),(41,x41)],[],⟨B,H⟩⟩
@[simp] theorem u20_0 (s : St) (k : K) : Run G c20_L0 s k = Run G c20_B0 { s with E:=Aw [0,1,4,5,37,42,72] s.E } (.seq c20_L0 k):=Ar _ _ s k
abbrev S20_1 (x2 x3 x76 x77 : V) (B : List (Nat × List V)) (H : Hp) : St:=⟨[(2,x2),(3,x3),(76,x76),(77,x77)],[],⟨B,H⟩⟩
@[simp] theorem u20_1 (s : St) (k : K) : Run G c20_L1 s k = Run G c20_B1 { s with E:=Aw [6,40,41,42,78,90] s.E } (.seq c20_L1 k):=Ar _ _ s k
abbrev S34_0 (x2 x3 x54 x55 x56 : V) (B : List (Nat × List V)) (H : Hp) : St:=⟨[(2,x2),(3,x3),(54,x54),(55,x55),(56,x56)],[],⟨B,H⟩⟩
@[simp] theorem u34_0 (s : St) (k : K) : Run G c34_L0 s k = Run G c34_B0 { s with E:=Aw [0,1,4,5,7,16,20,31,46,57,63] s.E } (.seq c34_L0 k):=Ar _ _ s k
abbrev S34_1 (x2 x3 x8 x66 x67 x68 : V) (B : List (Nat × List V)) (H : Hp) : St:=⟨[(2,x2),(3,x3),(8,x8),(66,x66),(67,x67),(68,x68)],[],⟨B,H⟩⟩
@[simp] theorem u34_1 (s : St) (k : K) : Run G c34_L1 s k = Run G c34_B1 { s with E:=Aw [10,11,12,54,55,56,57,69,81] s.E } (.seq c34_L1 k):=Ar _ _ s k
abbrev S34_2 (x8 x13 x89 x90 x95 x96 x97 : V) (B : List (Nat × List V)) (H : Hp) : St:=⟨[(8,x8),(13,x13),(89,x89),(90,x90),(95,x95),(96,x96),(97,x97)],[],⟨B,H⟩⟩
@[simp] theorem u34_2 (s : St) (k : K) : Run G c34_L2 s k = Run G c34_B2 { s with E:=Aw [15,91,98,107] s.E } (.seq c34_L2 k):=Ar _ _ s k
abbrev S34_3 (x8 x89 x90 : V) (B : List (Nat × List V)) (H : Hp) : St:=⟨[(8,x8),(89,x89),(90,x90)],[],⟨B,H⟩⟩
@[simp] theorem u34_3 (s : St) (k : K) : Run G c34_L3 s k = Run G c34_B3 { s with E:=Aw [2,3,13,66,67,68,69,95,96,97,98] s.E } (.seq c34_L3 k):=Ar _ _ s k
abbrev S35_0 (x4 x8 x9 x10 : V) (B : List (Nat × List V)) (H : Hp) : St:=⟨[(4,x4),(8,x8),(9,x9),(10,x10)],[],⟨B,H⟩⟩
@[simp] theorem u35_0 (s : St) (k : K) : Run G c35_L0 s k = Run G c35_B0 { s with E:=Aw [0,2,3,6,11,14,19,28] s.E } (.seq c35_L0 k):=Ar _ _ s k
abbrev S35_1 (x4 x7 : V) (B : List (Nat × List V)) (H : Hp) : St:=⟨[(4,x4),(7,x7)],[],⟨B,H⟩⟩
@[simp] theorem u35_1 (s : St) (k : K) : Run G c35_L1 s k = Run G c35_B1 { s with E:=Aw [8,9,10,11,42,56] s.E } (.seq c35_L1 k):=Ar _ _ s k
abbrev S37_0 (x1 x2 x5 : V) (B : List (Nat × List V)) (H : Hp) : St:=⟨[(1,x1),(2,x2),(5,x5)],[],⟨B,H⟩⟩
@[simp] theorem u37_0 (s : St) (k : K) : Run G c37_L0 s k = Run G c37_B0 { s with E:=Aw [0,4,8,11,15,25] s.E } (.seq c37_L0 k):=Ar _ _ s k
abbrev S40_0 (x0 x4 x5 : V) (B : List (Nat × List V)) (H : Hp) : St:=⟨[(0,x0),(4,x4),(5,x5)],[],⟨B,H⟩⟩
@[simp] theorem u40_0 (s : St) (k : K) : Run G c40_L0 s k = Run G c40_B0 { s with E:=Aw [2,3,11,25,39] s.E } (.seq c40_L0 k):=Ar _ _ s k
abbrev S40_1 (x0 x4 x6 : V) (B : List (Nat × List V)) (H : Hp) : St:=⟨[(0,x0),(4,x4),(6,x6)],[],⟨B,H⟩⟩
@[simp] theorem u40_1 (s : St) (k : K) : Run G c40_L1 s k = Run G c40_B1 { s with E:=Aw [5,11,43,51] s.E } (.seq c40_L1 k):=Ar _ _ s k
abbrev S40_2 (x4 x7 : V) (B : List (Nat × List V)) (H : Hp) : St:=⟨[(4,x4),(7,x7)],[],⟨B,H⟩⟩
@[simp] theorem u40_2 (s : St) (k : K) : Run G c40_L2 s k = Run G c40_B2 { s with E:=Aw [0,6,43,61,74] s.E } (.seq c40_L2 k):=Ar _ _ s k
abbrev S41_0 (x1 x3 x23 x24 : V) (B : List (Nat × List V)) (H : Hp) : St:=⟨[(1,x1),(3,x3),(23,x23),(24,x24)],[],⟨B,H⟩⟩
@[simp] theorem u41_0 (s : St) (k : K) : Run G c41_L0 s k = Run G c41_B0 { s with E:=Aw [0,2,6,7,8,9,10,15,22,25,33] s.E } (.seq c41_L0 k):=Ar _ _ s k
abbrev S44_0 (x0 x1 x5 : V) (B : List (Nat × List V)) (H : Hp) : St:=⟨[(0,x0),(1,x1),(5,x5)],[],⟨B,H⟩⟩
@[simp] theorem u44_0 (s : St) (k : K) : Run G c44_L0 s k = Run G c44_B0 { s with E:=Aw [4,15,28,50,72] s.E } (.seq c44_L0 k):=Ar _ _ s k
abbrev S46_0 (x1 x2 x8 x26 x27 : V) (B : List (Nat × List V)) (H : Hp) : St:=⟨[(1,x1),(2,x2),(8,x8),(26,x26),(27,x27)],[],⟨B,H⟩⟩
@[simp] theorem u46_0 (s : St) (k : K) : Run G c46_L0 s k = Run G c46_B0 { s with E:=Aw [0,6,7,9,12,22,28,54] s.E } (.seq c46_L0 k):=Ar _ _ s k
abbrev S48_0 (x0 x1 x2 x8 x9 : V) (B : List (Nat × List V)) (H : Hp) : St:=⟨[(0,x0),(1,x1),(2,x2),(8,x8),(9,x9)],[],⟨B,H⟩⟩
@[simp] theorem u48_0 (s : St) (k : K) : Run G c48_L0 s k = Run G c48_B0 { s with E:=Aw [6,7,12,26,30,48] s.E } (.seq c48_L0 k):=Ar _ _ s k
abbrev S58_0 (x2 x7 x8 x9 x10 x11 : V) (B : List (Nat × List V)) (H : Hp) : St:=⟨[(2,x2),(7,x7),(8,x8),(9,x9),(10,x10),(11,x11)],[],⟨B,H⟩⟩
@[simp] theorem u58_0 (s : St) (k : K) : Run G c58_L0 s k = Run G c58_B0 { s with E:=Aw [0,1,4,5,6,12,13,18,27,42] s.E } (.seq c58_L0 k):=Ar _ _ s k
abbrev S62_0 (x0 x8 x9 x10 : V) (B : List (Nat × List V)) (H : Hp) : St:=⟨[(0,x0),(8,x8),(9,x9),(10,x10)],[],⟨B,H⟩⟩
@[simp] theorem u62_0 (s : St) (k : K) : Run G c62_L0 s k = Run G c62_B0 { s with E:=Aw [2,3,4,7,11,42] s.E } (.seq c62_L0 k):=Ar _ _ s k
abbrev S63_0 (x0 x3 x6 x7 : V) (B : List (Nat × List V)) (H : Hp) : St:=⟨[(0,x0),(3,x3),(6,x6),(7,x7)],[],⟨B,H⟩⟩
@[simp] theorem u63_0 (s : St) (k : K) : Run G c63_L0 s k = Run G c63_B0 { s with E:=Aw [2,4,8] s.E } (.seq c63_L0 k):=Ar _ _ s k
abbrev S70_0 (x1 x3 x4 x5 x6 : V) (B : List (Nat × List V)) (H : Hp) : St:=⟨[(1,x1),(3,x3),(4,x4),(5,x5),(6,x6)],[],⟨B,H⟩⟩
@[simp] theorem u70_0 (s : St) (k : K) : Run G c70_L0 s k = Run G c70_B0 { s with E:=Aw [7,35,61,65,74,83,103] s.E } (.seq c70_L0 k):=Ar _ _ s k
abbrev S70_1 (x1 x3 x4 : V) (B : List (Nat × List V)) (H : Hp) : St:=⟨[(1,x1),(3,x3),(4,x4)],[],⟨B,H⟩⟩
@[simp] theorem u70_1 (s : St) (k : K) : Run G c70_L1 s k = Run G c70_B1 { s with E:=Aw [0,2,5,6,32,65] s.E } (.seq c70_L1 k):=Ar _ _ s k
abbrev S71_0 (x1 x2 x6 : V) (B : List (Nat × List V)) (H : Hp) : St:=⟨[(1,x1),(2,x2),(6,x6)],[],⟨B,H⟩⟩
@[simp] theorem u71_0 (s : St) (k : K) : Run G c71_L0 s k = Run G c71_B0 { s with E:=Aw [0,4,5,9,15,19,35] s.E } (.seq c71_L0 k):=Ar _ _ s k
abbrev S72_0 (x0 x3 : V) (B : List (Nat × List V)) (H : Hp) : St:=⟨[(0,x0),(3,x3)],[],⟨B,H⟩⟩
@[simp] theorem u72_0 (s : St) (k : K) : Run G c72_L0 s k = Run G c72_B0 { s with E:=Aw [2,7,54] s.E } (.seq c72_L0 k):=Ar _ _ s k
abbrev S74_0 (x0 x2 x4 x5 x6 x7 x8 : V) (B : List (Nat × List V)) (H : Hp) : St:=⟨[(0,x0),(2,x2),(4,x4),(5,x5),(6,x6),(7,x7),(8,x8)],[],⟨B,H⟩⟩
@[simp] theorem u74_0 (s : St) (k : K) : Run G c74_L0 s k = Run G c74_B0 { s with E:=Aw [3,16,37] s.E } (.seq c74_L0 k):=Ar _ _ s k
abbrev S79_0 (x0 x3 x5 x6 x7 : V) (B : List (Nat × List V)) (H : Hp) : St:=⟨[(0,x0),(3,x3),(5,x5),(6,x6),(7,x7)],[],⟨B,H⟩⟩
@[simp] theorem u79_0 (s : St) (k : K) : Run G c79_L0 s k = Run G c79_B0 { s with E:=Aw [1,4,11,23] s.E } (.seq c79_L0 k):=Ar _ _ s k
abbrev S82_0 (x2 x6 x7 x8 x10 x18 x19 x20 x25 x26 x27 : V) (B : List (Nat × List V)) (H : Hp) : St:=⟨[(2,x2),(6,x6),(7,x7),(8,x8),(10,x10),(18,x18),(19,x19),(20,x20),(25,x25),(26,x26),(27,x27)],[],⟨B,H⟩⟩
@[simp] theorem u82_0 (s : St) (k : K) : Run G c82_L0 s k = Run G c82_B0 { s with E:=Aw [12,13,14,21,28,44,52,55] s.E } (.seq c82_L0 k):=Ar _ _ s k
abbrev S82_1 (x2 x6 x7 x8 x18 x19 x20 : V) (B : List (Nat × List V)) (H : Hp) : St:=⟨[(2,x2),(6,x6),(7,x7),(8,x8),(18,x18),(19,x19),(20,x20)],[],⟨B,H⟩⟩
@[simp] theorem u82_1 (s : St) (k : K) : Run G c82_L1 s k = Run G c82_B1 { s with E:=Aw [0,1,4,5,10,25,26,27,28] s.E } (.seq c82_L1 k):=Ar _ _ s k
abbrev S83_0 (x0 x1 x12 x13 : V) (B : List (Nat × List V)) (H : Hp) : St:=⟨[(0,x0),(1,x1),(12,x12),(13,x13)],[],⟨B,H⟩⟩
@[simp] theorem u83_0 (s : St) (k : K) : Run G c83_L0 s k = Run G c83_B0 { s with E:=Aw [4,5,10,14,24] s.E } (.seq c83_L0 k):=Ar _ _ s k
abbrev S84_0 (x2 x3 x9 x10 : V) (B : List (Nat × List V)) (H : Hp) : St:=⟨[(2,x2),(3,x3),(9,x9),(10,x10)],[],⟨B,H⟩⟩
@[simp] theorem u84_0 (s : St) (k : K) : Run G c84_L0 s k = Run G c84_B0 { s with E:=Aw [0,1,6,7,8,11,12,17,24,29,42] s.E } (.seq c84_L0 k):=Ar _ _ s k
abbrev S87_0 (x0 x6 x16 x17 x18 : V) (B : List (Nat × List V)) (H : Hp) : St:=⟨[(0,x0),(6,x6),(16,x16),(17,x17),(18,x18)],[],⟨B,H⟩⟩
@[simp] theorem u87_0 (s : St) (k : K) : Run G c87_L0 s k = Run G c87_B0 { s with E:=Aw [1,4,5,8,9,12,19] s.E } (.seq c87_L0 k):=Ar _ _ s k
abbrev S88_0 (x3 x5 x24 x25 x26 : V) (B : List (Nat × List V)) (H : Hp) : St:=⟨[(3,x3),(5,x5),(24,x24),(25,x25),(26,x26)],[],⟨B,H⟩⟩
@[simp] theorem u88_0 (s : St) (k : K) : Run G c88_L0 s k = Run G c88_B0 { s with E:=Aw [0,2,4,7,19,27] s.E } (.seq c88_L0 k):=Ar _ _ s k
abbrev S90_0 (x0 x1 x2 : V) (B : List (Nat × List V)) (H : Hp) : St:=⟨[(0,x0),(1,x1),(2,x2)],[],⟨B,H⟩⟩
@[simp] theorem u90_0 (s : St) (k : K) : Run G c90_L0 s k = Run G c90_B0 { s with E:=Aw [6,14,22,26,42,53] s.E } (.seq c90_L0 k):=Ar _ _ s k
abbrev S93_0 (x0 x1 x2 x7 x8 : V) (B : List (Nat × List V)) (H : Hp) : St:=⟨[(0,x0),(1,x1),(2,x2),(7,x7),(8,x8)],[],⟨B,H⟩⟩
@[simp] theorem u93_0 (s : St) (k : K) : Run G c93_L0 s k = Run G c93_B0 { s with E:=Aw [6,12,22] s.E } (.seq c93_L0 k):=Ar _ _ s k
abbrev S98_0 (x0 x2 x3 x5 x6 : V) (B : List (Nat × List V)) (H : Hp) : St:=⟨[(0,x0),(2,x2),(3,x3),(5,x5),(6,x6)],[],⟨B,H⟩⟩
@[simp] theorem u98_0 (s : St) (k : K) : Run G c98_L0 s k = Run G c98_B0 { s with E:=Aw [23,35] s.E } (.seq c98_L0 k):=Ar _ _ s k
abbrev S99_0 (x1 x3 x4 x5 : V) (B : List (Nat × List V)) (H : Hp) : St:=⟨[(1,x1),(3,x3),(4,x4),(5,x5)],[],⟨B,H⟩⟩
@[simp] theorem u99_0 (s : St) (k : K) : Run G c99_L0 s k = Run G c99_B0 { s with E:=Aw [25,41] s.E } (.seq c99_L0 k):=Ar _ _ s k
abbrev S99_1 (x1 x3 x4 : V) (B : List (Nat × List V)) (H : Hp) : St:=⟨[(1,x1),(3,x3),(4,x4)],[],⟨B,H⟩⟩
@[simp] theorem u99_1 (s : St) (k : K) : Run G c99_L1 s k = Run G c99_B1 { s with E:=Aw [0,2,5,11,41] s.E } (.seq c99_L1 k):=Ar _ _ s k
abbrev S99_2 (x1 x3 x6 x7 x8 : V) (B : List (Nat × List V)) (H : Hp) : St:=⟨[(1,x1),(3,x3),(6,x6),(7,x7),(8,x8)],[],⟨B,H⟩⟩
@[simp] theorem u99_2 (s : St) (k : K) : Run G c99_L2 s k = Run G c99_B2 { s with E:=Aw [9,59,63,87] s.E } (.seq c99_L2 k):=Ar _ _ s k
abbrev S99_3 (x1 x3 x6 x7 : V) (B : List (Nat × List V)) (H : Hp) : St:=⟨[(1,x1),(3,x3),(6,x6),(7,x7)],[],⟨B,H⟩⟩
@[simp] theorem u99_3 (s : St) (k : K) : Run G c99_L3 s k = Run G c99_B3 { s with E:=Aw [8,55,63] s.E } (.seq c99_L3 k):=Ar _ _ s k
abbrev S99_4 (x1 x3 x6 : V) (B : List (Nat × List V)) (H : Hp) : St:=⟨[(1,x1),(3,x3),(6,x6)],[],⟨B,H⟩⟩
@[simp] theorem u99_4 (s : St) (k : K) : Run G c99_L4 s k = Run G c99_B4 { s with E:=Aw [0,2,7,11,59] s.E } (.seq c99_L4 k):=Ar _ _ s k
abbrev S100_0 (x2 x3 x4 x5 x9 x10 : V) (B : List (Nat × List V)) (H : Hp) : St:=⟨[(2,x2),(3,x3),(4,x4),(5,x5),(9,x9),(10,x10)],[],⟨B,H⟩⟩
@[simp] theorem u100_0 (s : St) (k : K) : Run G c100_L0 s k = Run G c100_B0 { s with E:=Aw [0,1,8,15] s.E } (.seq c100_L0 k):=Ar _ _ s k
abbrev S103_0 (x0 x2 x4 x5 x26 x27 x28 : V) (B : List (Nat × List V)) (H : Hp) : St:=⟨[(0,x0),(2,x2),(4,x4),(5,x5),(26,x26),(27,x27),(28,x28)],[],⟨B,H⟩⟩
@[simp] theorem u103_0 (s : St) (k : K) : Run G c103_L0 s k = Run G c103_B0 { s with E:=Aw [3,7,16,29] s.E } (.seq c103_L0 k):=Ar _ _ s k
abbrev S104_0 (x1 x4 x5 x47 x48 x49 x74 x75 x76 : V) (B : List (Nat × List V)) (H : Hp) : St:=⟨[(1,x1),(4,x4),(5,x5),(47,x47),(48,x48),(49,x49),(74,x74),(75,x75),(76,x76)],[],⟨B,H⟩⟩
@[simp] theorem u104_0 (s : St) (k : K) : Run G c104_L0 s k = Run G c104_B0 { s with E:=Aw [7,50,72,77,114] s.E } (.seq c104_L0 k):=Ar _ _ s k
abbrev S104_1 (x1 x47 x48 x49 : V) (B : List (Nat × List V)) (H : Hp) : St:=⟨[(1,x1),(47,x47),(48,x48),(49,x49)],[],⟨B,H⟩⟩
@[simp] theorem u104_1 (s : St) (k : K) : Run G c104_L1 s k = Run G c104_B1 { s with E:=Aw [0,2,3,4,5,45,74,75,76,77] s.E } (.seq c104_L1 k):=Ar _ _ s k
abbrev S105_0 (x2 x5 x12 x13 x14 : V) (B : List (Nat × List V)) (H : Hp) : St:=⟨[(2,x2),(5,x5),(12,x12),(13,x13),(14,x14)],[],⟨B,H⟩⟩
@[simp] theorem u105_0 (s : St) (k : K) : Run G c105_L0 s k = Run G c105_B0 { s with E:=Aw [0,1,4,7,15] s.E } (.seq c105_L0 k):=Ar _ _ s k
abbrev S108_0 (x0 x1 x2 x3 x4 x10 x11 : V) (B : List (Nat × List V)) (H : Hp) : St:=⟨[(0,x0),(1,x1),(2,x2),(3,x3),(4,x4),(10,x10),(11,x11)],[],⟨B,H⟩⟩
@[simp] theorem u108_0 (s : St) (k : K) : Run G c108_L0 s k = Run G c108_B0 { s with E:=Aw [12,13,14,15,16,17,18,19,20,25,32,39,56,75,80,97,125] s.E } (.seq c108_L0 k):=Ar _ _ s k
abbrev S111_0 (x0 x3 : V) (B : List (Nat × List V)) (H : Hp) : St:=⟨[(0,x0),(3,x3)],[],⟨B,H⟩⟩
@[simp] theorem u111_0 (s : St) (k : K) : Run G c111_L0 s k = Run G c111_B0 { s with E:=Aw [2,4,12,16,54] s.E } (.seq c111_L0 k):=Ar _ _ s k
abbrev S112_0 (x1 x2 x5 x6 : V) (B : List (Nat × List V)) (H : Hp) : St:=⟨[(1,x1),(2,x2),(5,x5),(6,x6)],[],⟨B,H⟩⟩
@[simp] theorem u112_0 (s : St) (k : K) : Run G c112_L0 s k = Run G c112_B0 { s with E:=Aw [0,4,14] s.E } (.seq c112_L0 k):=Ar _ _ s k
abbrev S113_0 (x1 x2 x3 x6 x11 x12 : V) (B : List (Nat × List V)) (H : Hp) : St:=⟨[(1,x1),(2,x2),(3,x3),(6,x6),(11,x11),(12,x12)],[],⟨B,H⟩⟩
@[simp] theorem u113_0 (s : St) (k : K) : Run G c113_L0 s k = Run G c113_B0 { s with E:=Aw [0,7,8,10,20,28,32,37,47,59] s.E } (.seq c113_L0 k):=Ar _ _ s k
abbrev S115_0 (x0 x1 x6 x7 : V) (B : List (Nat × List V)) (H : Hp) : St:=⟨[(0,x0),(1,x1),(6,x6),(7,x7)],[],⟨B,H⟩⟩
@[simp] theorem u115_0 (s : St) (k : K) : Run G c115_L0 s k = Run G c115_B0 { s with E:=Aw [4,5,8,11,15] s.E } (.seq c115_L0 k):=Ar _ _ s k
abbrev S116_0 (x0 x3 x4 x5 : V) (B : List (Nat × List V)) (H : Hp) : St:=⟨[(0,x0),(3,x3),(4,x4),(5,x5)],[],⟨B,H⟩⟩
@[simp] theorem u116_0 (s : St) (k : K) : Run G c116_L0 s k = Run G c116_B0 { s with E:=Aw [2,15,28] s.E } (.seq c116_L0 k):=Ar _ _ s k
abbrev S116_1 (x0 x3 x4 x6 x7 : V) (B : List (Nat × List V)) (H : Hp) : St:=⟨[(0,x0),(3,x3),(4,x4),(6,x6),(7,x7)],[],⟨B,H⟩⟩
@[simp] theorem u116_1 (s : St) (k : K) : Run G c116_L1 s k = Run G c116_B1 { s with E:=Aw [5,28,48] s.E } (.seq c116_L1 k):=Ar _ _ s k
abbrev S117_0 (x3 x7 x8 x9 : V) (B : List (Nat × List V)) (H : Hp) : St:=⟨[(3,x3),(7,x7),(8,x8),(9,x9)],[],⟨B,H⟩⟩
@[simp] theorem u117_0 (s : St) (k : K) : Run G c117_L0 s k = Run G c117_B0 { s with E:=Aw [0,2,5,10] s.E } (.seq c117_L0 k):=Ar _ _ s k
abbrev S118_0 (x0 x4 x5 x7 x15 x16 x17 : V) (B : List (Nat × List V)) (H : Hp) : St:=⟨[(0,x0),(4,x4),(5,x5),(7,x7),(15,x15),(16,x16),(17,x17)],[],⟨B,H⟩⟩
@[simp] theorem u118_0 (s : St) (k : K) : Run G c118_L0 s k = Run G c118_B0 { s with E:=Aw [1,2,6,9,18] s.E } (.seq c118_L0 k):=Ar _ _ s k
abbrev S130_0 (x1 x3 x5 x7 : V) (B : List (Nat × List V)) (H : Hp) : St:=⟨[(1,x1),(3,x3),(5,x5),(7,x7)],[],⟨B,H⟩⟩
@[simp] theorem u130_0 (s : St) (k : K) : Run G c130_L0 s k = Run G c130_B0 { s with E:=Aw [0,2,6,8,9,12,44] s.E } (.seq c130_L0 k):=Ar _ _ s k
abbrev S135_0 (x0 x13 x14 x15 : V) (B : List (Nat × List V)) (H : Hp) : St:=⟨[(0,x0),(13,x13),(14,x14),(15,x15)],[],⟨B,H⟩⟩
@[simp] theorem u135_0 (s : St) (k : K) : Run G c135_L0 s k = Run G c135_B0 { s with E:=Aw [2,3,4,12,16,51] s.E } (.seq c135_L0 k):=Ar _ _ s k
abbrev S136_0 (x1 x2 x3 x6 x11 x12 : V) (B : List (Nat × List V)) (H : Hp) : St:=⟨[(1,x1),(2,x2),(3,x3),(6,x6),(11,x11),(12,x12)],[],⟨B,H⟩⟩
@[simp] theorem u136_0 (s : St) (k : K) : Run G c136_L0 s k = Run G c136_B0 { s with E:=Aw [0,7,8,10,13,14,15,16,17,25,30,40,50,61] s.E } (.seq c136_L0 k):=Ar _ _ s k
abbrev S138_0 (x0 x1 x2 x3 x8 x9 : V) (B : List (Nat × List V)) (H : Hp) : St:=⟨[(0,x0),(1,x1),(2,x2),(3,x3),(8,x8),(9,x9)],[],⟨B,H⟩⟩
@[simp] theorem u138_0 (s : St) (k : K) : Run G c138_L0 s k = Run G c138_B0 { s with E:=Aw [14,34] s.E } (.seq c138_L0 k):=Ar _ _ s k
abbrev S138_1 (x0 x1 x2 x3 x8 : V) (B : List (Nat × List V)) (H : Hp) : St:=⟨[(0,x0),(1,x1),(2,x2),(3,x3),(8,x8)],[],⟨B,H⟩⟩
@[simp] theorem u138_1 (s : St) (k : K) : Run G c138_L1 s k = Run G c138_B1 { s with E:=Aw [9,34] s.E } (.seq c138_L1 k):=Ar _ _ s k
abbrev S139_0 (x0 x3 x8 x9 x10 x11 : V) (B : List (Nat × List V)) (H : Hp) : St:=⟨[(0,x0),(3,x3),(8,x8),(9,x9),(10,x10),(11,x11)],[],⟨B,H⟩⟩
@[simp] theorem u139_0 (s : St) (k : K) : Run G c139_L0 s k = Run G c139_B0 { s with E:=Aw [1,2,21] s.E } (.seq c139_L0 k):=Ar _ _ s k
abbrev S139_1 (x0 x3 x8 x9 x12 : V) (B : List (Nat × List V)) (H : Hp) : St:=⟨[(0,x0),(3,x3),(8,x8),(9,x9),(12,x12)],[],⟨B,H⟩⟩
@[simp] theorem u139_1 (s : St) (k : K) : Run G c139_L1 s k = Run G c139_B1 { s with E:=Aw [10,11,21,33] s.E } (.seq c139_L1 k):=Ar _ _ s k
abbrev S140_0 (x0 x1 x8 x9 x10 x11 : V) (B : List (Nat × List V)) (H : Hp) : St:=⟨[(0,x0),(1,x1),(8,x8),(9,x9),(10,x10),(11,x11)],[],⟨B,H⟩⟩
@[simp] theorem u140_0 (s : St) (k : K) : Run G c140_L0 s k = Run G c140_B0 { s with E:=Aw [2,3,12,17,35,45] s.E } (.seq c140_L0 k):=Ar _ _ s k
abbrev S142_0 (x0 x8 x9 : V) (B : List (Nat × List V)) (H : Hp) : St:=⟨[(0,x0),(8,x8),(9,x9)],[],⟨B,H⟩⟩
@[simp] theorem u142_0 (s : St) (k : K) : Run G c142_L0 s k = Run G c142_B0 { s with E:=Aw [1,2,3,15] s.E } (.seq c142_L0 k):=Ar _ _ s k
abbrev S143_0 (x0 x1 x2 x3 x9 x10 : V) (B : List (Nat × List V)) (H : Hp) : St:=⟨[(0,x0),(1,x1),(2,x2),(3,x3),(9,x9),(10,x10)],[],⟨B,H⟩⟩
@[simp] theorem u143_0 (s : St) (k : K) : Run G c143_L0 s k = Run G c143_B0 { s with E:=Aw [16,36] s.E } (.seq c143_L0 k):=Ar _ _ s k
abbrev S143_1 (x0 x1 x2 x3 x9 x10 x11 : V) (B : List (Nat × List V)) (H : Hp) : St:=⟨[(0,x0),(1,x1),(2,x2),(3,x3),(9,x9),(10,x10),(11,x11)],[],⟨B,H⟩⟩
@[simp] theorem u143_1 (s : St) (k : K) : Run G c143_L1 s k = Run G c143_B1 { s with E:=Aw [36,41,45,65,69,84] s.E } (.seq c143_L1 k):=Ar _ _ s k
abbrev S143_2 (x0 x1 x2 x3 x9 x10 x12 : V) (B : List (Nat × List V)) (H : Hp) : St:=⟨[(0,x0),(1,x1),(2,x2),(3,x3),(9,x9),(10,x10),(12,x12)],[],⟨B,H⟩⟩
@[simp] theorem u143_2 (s : St) (k : K) : Run G c143_L2 s k = Run G c143_B2 { s with E:=Aw [11,36,41,45,65,69,84,104,109,124] s.E } (.seq c143_L2 k):=Ar _ _ s k
abbrev S143_3 (x0 x1 x2 x3 x9 x10 : V) (B : List (Nat × List V)) (H : Hp) : St:=⟨[(0,x0),(1,x1),(2,x2),(3,x3),(9,x9),(10,x10)],[],⟨B,H⟩⟩
@[simp] theorem u143_3 (s : St) (k : K) : Run G c143_L3 s k = Run G c143_B3 { s with E:=Aw [8,11,12,36,41,45,65,69,84,104,109,124] s.E } (.seq c143_L3 k):=Ar _ _ s k
abbrev S144_0 (x0 x1 x4 x11 x12 : V) (B : List (Nat × List V)) (H : Hp) : St:=⟨[(0,x0),(1,x1),(4,x4),(11,x11),(12,x12)],[],⟨B,H⟩⟩
@[simp] theorem u144_0 (s : St) (k : K) : Run G c144_L0 s k = Run G c144_B0 { s with E:=Aw [2,3,10,47,65,70] s.E } (.seq c144_L0 k):=Ar _ _ s k
abbrev S144_1 (x0 x1 x4 x11 x12 : V) (B : List (Nat × List V)) (H : Hp) : St:=⟨[(0,x0),(1,x1),(4,x4),(11,x11),(12,x12)],[],⟨B,H⟩⟩
@[simp] theorem u144_1 (s : St) (k : K) : Run G c144_L1 s k = Run G c144_B1 { s with E:=Aw [47,65] s.E } (.seq c144_L1 k):=Ar _ _ s k
abbrev S144_2 (x0 x1 x4 x11 x12 : V) (B : List (Nat × List V)) (H : Hp) : St:=⟨[(0,x0),(1,x1),(4,x4),(11,x11),(12,x12)],[],⟨B,H⟩⟩
@[simp] theorem u144_2 (s : St) (k : K) : Run G c144_L2 s k = Run G c144_B2 { s with E:=Aw [2,3,10,47,65,70] s.E } (.seq c144_L2 k):=Ar _ _ s k
abbrev S145_0 (x0 x1 x4 x12 x13 : V) (B : List (Nat × List V)) (H : Hp) : St:=⟨[(0,x0),(1,x1),(4,x4),(12,x12),(13,x13)],[],⟨B,H⟩⟩
@[simp] theorem u145_0 (s : St) (k : K) : Run G c145_L0 s k = Run G c145_B0 { s with E:=Aw [2,3,10,11,47] s.E } (.seq c145_L0 k):=Ar _ _ s k
abbrev S145_1 (x0 x1 x4 x12 x13 : V) (B : List (Nat × List V)) (H : Hp) : St:=⟨[(0,x0),(1,x1),(4,x4),(12,x12),(13,x13)],[],⟨B,H⟩⟩
@[simp] theorem u145_1 (s : St) (k : K) : Run G c145_L1 s k = Run G c145_B1 { s with E:=Aw [47,66] s.E } (.seq c145_L1 k):=Ar _ _ s k
abbrev S145_2 (x0 x1 x4 x12 x13 : V) (B : List (Nat × List V)) (H : Hp) : St:=⟨[(0,x0),(1,x1),(4,x4),(12,x12),(13,x13)],[],⟨B,H⟩⟩
@[simp] theorem u145_2 (s : St) (k : K) : Run G c145_L2 s k = Run G c145_B2 { s with E:=Aw [66,71,120,139,144] s.E } (.seq c145_L2 k):=Ar _ _ s k
abbrev S145_3 (x0 x1 x4 x12 x13 : V) (B : List (Nat × List V)) (H : Hp) : St:=⟨[(0,x0),(1,x1),(4,x4),(12,x12),(13,x13)],[],⟨B,H⟩⟩
@[simp] theorem u145_3 (s : St) (k : K) : Run G c145_L3 s k = Run G c145_B3 { s with E:=Aw [120,139] s.E } (.seq c145_L3 k):=Ar _ _ s k
abbrev S145_4 (x0 x1 x4 x12 x13 : V) (B : List (Nat × List V)) (H : Hp) : St:=⟨[(0,x0),(1,x1),(4,x4),(12,x12),(13,x13)],[],⟨B,H⟩⟩
@[simp] theorem u145_4 (s : St) (k : K) : Run G c145_L4 s k = Run G c145_B4 { s with E:=Aw [66,71,120,139,144] s.E } (.seq c145_L4 k):=Ar _ _ s k
@[simp] theorem u148_0 (s : St) (k : K) : Run G c148_L0 s k = Run G c148_B0 { s with E:=Aw [0,2,5,9,14] s.E } (.seq c148_L0 k):=Ar _ _ s k
abbrev S151_0 (x0 x3 x4 : V) (B : List (Nat × List V)) (H : Hp) : St:=⟨[(0,x0),(3,x3),(4,x4)],[],⟨B,H⟩⟩
@[simp] theorem u151_0 (s : St) (k : K) : Run G c151_L0 s k = Run G c151_B0 { s with E:=Aw [2,8] s.E } (.seq c151_L0 k):=Ar _ _ s k
@[simp] theorem u153_0 (s : St) (k : K) : Run G c153_L0 s k = Run G c153_B0 { s with E:=Aw [1,9,20] s.E } (.seq c153_L0 k):=Ar _ _ s k
abbrev S154_0 (x0 x1 x2 x7 : V) (B : List (Nat × List V)) (H : Hp) : St:=⟨[(0,x0),(1,x1),(2,x2),(7,x7)],[],⟨B,H⟩⟩
@[simp] theorem u154_0 (s : St) (k : K) : Run G c154_L0 s k = Run G c154_B0 { s with E:=Aw [6,11,29] s.E } (.seq c154_L0 k):=Ar _ _ s k
abbrev S170_0 (x0 x1 x4 x5 x37 x38 : V) (B : List (Nat × List V)) (H : Hp) : St:=⟨[(0,x0),(1,x1),(4,x4),(5,x5),(37,x37),(38,x38)],[],⟨B,H⟩⟩
@[simp] theorem u170_0 (s : St) (k : K) : Run G c170_L0 s k = Run G c170_B0 { s with E:=Aw [6,7,17,39,65] s.E } (.seq c170_L0 k):=Ar _ _ s k
abbrev S172_0 (x0 x2 x3 x4 x10 : V) (B : List (Nat × List V)) (H : Hp) : St:=⟨[(0,x0),(2,x2),(3,x3),(4,x4),(10,x10)],[],⟨B,H⟩⟩
@[simp] theorem u172_0 (s : St) (k : K) : Run G c172_L0 s k = Run G c172_B0 { s with E:=Aw [1,11,18,40,58] s.E } (.seq c172_L0 k):=Ar _ _ s k
end Go.Mx.Tryz
