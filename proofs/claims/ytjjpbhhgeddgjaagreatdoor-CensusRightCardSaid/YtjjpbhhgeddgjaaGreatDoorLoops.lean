/- The loops of this seat, one round at a time. -/
import Derived.Test.YtjjpbhhgeddgjaaGreatDoorSeat
namespace Go.Mx.Tryz
abbrev S5_0 (x0 x5 x6 : V) (B : List (Nat × List V)) (H : Hp) : St:=⟨[(0,x0),(5,x5),(6,x6)],[],⟨B,H⟩⟩
@[simp] theorem u5_0 (s : St) (k : K) : Run G c5_L0 s k = Run G c5_B0 { s with E:=AK [2,3,7,15] s.E } (.seq c5_L0 k):=AQ _ _ s k
abbrev S7_0 (x6 x22 x23 x24 : V) (B : List (Nat × List V)) (H : Hp) : St:=⟨[(6,x6),(22,x22),(23,x23),(24,x24)],[],⟨B,H⟩⟩
@[simp] theorem u7_0 (s : St) (k : K) : Run G c7_L0 s k = Run G c7_B0 { s with E:=AK [0,1,4,5,8,17,25] s.E } (.seq c7_L0 k):=AQ _ _ s k
abbrev S8_0 (x6 x7 : V) (B : List (Nat × List V)) (H : Hp) : St:=⟨[(6,x6),(7,x7)],[],⟨B,H⟩⟩
@[simp] theorem u8_0 (s : St) (k : K) : Run G c8_L0 s k = Run G c8_B0 { s with E:=AK [0,1,4,5,15,22,30] s.E } (.seq c8_L0 k):=AQ _ _ s k
abbrev S9_0 (x0 x1 x5 : V) (B : List (Nat × List V)) (H : Hp) : St:=⟨[(0,x0),(1,x1),(5,x5)],[],⟨B,H⟩⟩
@[simp] theorem u9_0 (s : St) (k : K) : Run G c9_L0 s k = Run G c9_B0 { s with E:=AK [4,10,14,25] s.E } (.seq c9_L0 k):=AQ _ _ s k
abbrev S10_0 (x3 x8 x9 x10 : V) (B : List (Nat × List V)) (H : Hp) : St:=⟨[(3,x3),(8,x8),(9,x9),(10,x10)],[],⟨B,H⟩⟩
@[simp] theorem u10_0 (s : St) (k : K) : Run G c10_L0 s k = Run G c10_B0 { s with E:=AK [0,2,5,7,11] s.E } (.seq c10_L0 k):=AQ _ _ s k
abbrev S11_0 (x0 x9 x10 x11 : V) (B : List (Nat × List V)) (H : Hp) : St:=⟨[(0,x0),(9,x9),(10,x10),(11,x11)],[],⟨B,H⟩⟩
@[simp] theorem u11_0 (s : St) (k : K) : Run G c11_L0 s k = Run G c11_B0 { s with E:=AK [2,3,4,5,8,12,49] s.E } (.seq c11_L0 k):=AQ _ _ s k
abbrev S12_0 (x0 x3 x4 x5 : V) (B : List (Nat × List V)) (H : Hp) : St:=⟨[(0,x0),(3,x3),(4,x4),(5,x5)],[],⟨B,H⟩⟩
@[simp] theorem u12_0 (s : St) (k : K) : Run G c12_L0 s k = Run G c12_B0 { s with E:=AK [12,47,52,66] s.E } (.seq c12_L0 k):=AQ _ _ s k
abbrev S12_1 (x0 x3 : V) (B : List (Nat × List V)) (H : Hp) : St:=⟨[(0,x0),(3,x3)],[],⟨B,H⟩⟩
@[simp] theorem u12_1 (s : St) (k : K) : Run G c12_L1 s k = Run G c12_B1 { s with E:=AK [2,4,5,8,52] s.E } (.seq c12_L1 k):=AQ _ _ s k
abbrev S13_0 (x0 x3 x4 : V) (B : List (Nat × List V)) (H : Hp) : St:=⟨[(0,x0),(3,x3),(4,x4)],[],⟨B,H⟩⟩
@[simp] theorem u13_0 (s : St) (k : K) : Run G c13_L0 s k = Run G c13_B0 { s with E:=AK [2,7,11] s.E } (.seq c13_L0 k):=AQ _ _ s k
abbrev S14_0 (x3 x8 x9 x10 : V) (B : List (Nat × List V)) (H : Hp) : St:=⟨[(3,x3),(8,x8),(9,x9),(10,x10)],[],⟨B,H⟩⟩
@[simp] theorem u14_0 (s : St) (k : K) : Run G c14_L0 s k = Run G c14_B0 { s with E:=AK [0,2,5,7,11] s.E } (.seq c14_L0 k):=AQ _ _ s k
abbrev S15_0 (x0 x3 x4 : V) (B : List (Nat × List V)) (H : Hp) : St:=⟨[(0,x0),(3,x3),(4,x4)],[],⟨B,H⟩⟩
@[simp] theorem u15_0 (s : St) (k : K) : Run G c15_L0 s k = Run G c15_B0 { s with E:=AK [2,7,11] s.E } (.seq c15_L0 k):=AQ _ _ s k
@[simp] theorem u20_0 (s : St) (k : K) : Run G c20_L0 s k = Run G c20_B0 { s with E:=AK [2,5,12,20] s.E } (.seq c20_L0 k):=AQ _ _ s k
@[simp] theorem u20_1 (s : St) (k : K) : Run G c20_L1 s k = Run G c20_B1 { s with E:=AK [0,3,8,9,10,11,12,28] s.E } (.seq c20_L1 k):=AQ _ _ s k
abbrev S21_0 (x0 x3 x8 x9 x10 : V) (B : List (Nat × List V)) (H : Hp) : St:=⟨[(0,x0),(3,x3),(8,x8),(9,x9),(10,x10)],[],⟨B,H⟩⟩
@[simp] theorem u21_0 (s : St) (k : K) : Run G c21_L0 s k = Run G c21_B0 { s with E:=AK [2,5,11] s.E } (.seq c21_L0 k):=AQ _ _ s k
abbrev S24_0 (x0 x1 x5 : V) (B : List (Nat × List V)) (H : Hp) : St:=⟨[(0,x0),(1,x1),(5,x5)],[],⟨B,H⟩⟩
@[simp] theorem u24_0 (s : St) (k : K) : Run G c24_L0 s k = Run G c24_B0 { s with E:=AK [4,9] s.E } (.seq c24_L0 k):=AQ _ _ s k
abbrev S43_0 (x0 x1 x7 x8 : V) (B : List (Nat × List V)) (H : Hp) : St:=⟨[(0,x0),(1,x1),(7,x7),(8,x8)],[],⟨B,H⟩⟩
@[simp] theorem u43_0 (s : St) (k : K) : Run G c43_L0 s k = Run G c43_B0 { s with E:=AK [4,5,9,16] s.E } (.seq c43_L0 k):=AQ _ _ s k
abbrev S44_0 (x0 x1 x2 x7 x8 x9 : V) (B : List (Nat × List V)) (H : Hp) : St:=⟨[(0,x0),(1,x1),(2,x2),(7,x7),(8,x8),(9,x9)],[],⟨B,H⟩⟩
@[simp] theorem u44_0 (s : St) (k : K) : Run G c44_L0 s k = Run G c44_B0 { s with E:=AK [6,10,14,28,41] s.E } (.seq c44_L0 k):=AQ _ _ s k
abbrev S75_0 (x0 x3 x4 x5 x6 x7 : V) (B : List (Nat × List V)) (H : Hp) : St:=⟨[(0,x0),(3,x3),(4,x4),(5,x5),(6,x6),(7,x7)],[],⟨B,H⟩⟩
@[simp] theorem u75_0 (s : St) (k : K) : Run G c75_L0 s k = Run G c75_B0 { s with E:=AK [8,14,24,40] s.E } (.seq c75_L0 k):=AQ _ _ s k
abbrev S75_1 (x0 x3 x4 x5 x6 x9 x10 : V) (B : List (Nat × List V)) (H : Hp) : St:=⟨[(0,x0),(3,x3),(4,x4),(5,x5),(6,x6),(9,x9),(10,x10)],[],⟨B,H⟩⟩
@[simp] theorem u75_1 (s : St) (k : K) : Run G c75_L1 s k = Run G c75_B1 { s with E:=AK [7,24,53,74] s.E } (.seq c75_L1 k):=AQ _ _ s k
abbrev S75_2 (x0 x3 x4 x5 : V) (B : List (Nat × List V)) (H : Hp) : St:=⟨[(0,x0),(3,x3),(4,x4),(5,x5)],[],⟨B,H⟩⟩
@[simp] theorem u75_2 (s : St) (k : K) : Run G c75_L2 s k = Run G c75_B2 { s with E:=AK [2,6,9,10,53] s.E } (.seq c75_L2 k):=AQ _ _ s k
abbrev S86_0 (x1 x3 x7 : V) (B : List (Nat × List V)) (H : Hp) : St:=⟨[(1,x1),(3,x3),(7,x7)],[],⟨B,H⟩⟩
@[simp] theorem u86_0 (s : St) (k : K) : Run G c86_L0 s k = Run G c86_B0 { s with E:=AK [0,2,4,5,6,8,22] s.E } (.seq c86_L0 k):=AQ _ _ s k
abbrev S103_0 (x0 x1 x4 : V) (B : List (Nat × List V)) (H : Hp) : St:=⟨[(0,x0),(1,x1),(4,x4)],[],⟨B,H⟩⟩
@[simp] theorem u103_0 (s : St) (k : K) : Run G c103_L0 s k = Run G c103_B0 { s with E:=AK [5,6,7,8,9,10,11,20] s.E } (.seq c103_L0 k):=AQ _ _ s k
abbrev S107_0 (x0 x1 x5 : V) (B : List (Nat × List V)) (H : Hp) : St:=⟨[(0,x0),(1,x1),(5,x5)],[],⟨B,H⟩⟩
@[simp] theorem u107_0 (s : St) (k : K) : Run G c107_L0 s k = Run G c107_B0 { s with E:=AK [4,10,14,25] s.E } (.seq c107_L0 k):=AQ _ _ s k
abbrev S115_0 (x0 x4 x6 x18 x19 x20 : V) (B : List (Nat × List V)) (H : Hp) : St:=⟨[(0,x0),(4,x4),(6,x6),(18,x18),(19,x19),(20,x20)],[],⟨B,H⟩⟩
@[simp] theorem u115_0 (s : St) (k : K) : Run G c115_L0 s k = Run G c115_B0 { s with E:=AK [1,3,5,7,8,13,21] s.E } (.seq c115_L0 k):=AQ _ _ s k
abbrev S115_1 (x4 x6 x9 x10 : V) (B : List (Nat × List V)) (H : Hp) : St:=⟨[(4,x4),(6,x6),(9,x9),(10,x10)],[],⟨B,H⟩⟩
@[simp] theorem u115_1 (s : St) (k : K) : Run G c115_L1 s k = Run G c115_B1 { s with E:=AK [34,39,54] s.E } (.seq c115_L1 k):=AQ _ _ s k
abbrev S115_2 (x4 x6 x9 : V) (B : List (Nat × List V)) (H : Hp) : St:=⟨[(4,x4),(6,x6),(9,x9)],[],⟨B,H⟩⟩
@[simp] theorem u115_2 (s : St) (k : K) : Run G c115_L2 s k = Run G c115_B2 { s with E:=AK [0,10,18,19,20,21,39] s.E } (.seq c115_L2 k):=AQ _ _ s k
@[simp] theorem u124_0 (s : St) (k : K) : Run G c124_L0 s k = Run G c124_B0 { s with E:=AK [0,2,5,9,14] s.E } (.seq c124_L0 k):=AQ _ _ s k
abbrev S156_0 (x2 x4 x5 x6 x7 x8 x9 x10 x11 x13 x28 x29 x30 x44 x45 x46 x64 x65 x66 : V) (B : List (Nat × List V)) (H : Hp) : St:=⟨[(2,x2),(4,x4),(5,x5),(6,x6),(7,x7),(8,x8),(9,x9),(10,x10),(11,x11),(13,x13),(28,x28),(29,x29),(30,x30),(44,x44),(45,x45),(46,x46),(64,x64),(65,x65),(66,x66)],[],⟨B,H⟩⟩
@[simp] theorem u156_0 (s : St) (k : K) : Run G c156_L0 s k = Run G c156_B0 { s with E:=AK [12,14,15,47,55,67,84] s.E } (.seq c156_L0 k):=AQ _ _ s k
abbrev S156_1 (x2 x4 x5 x6 x7 x8 x9 x10 x28 x29 x30 x44 x45 x46 : V) (B : List (Nat × List V)) (H : Hp) : St:=⟨[(2,x2),(4,x4),(5,x5),(6,x6),(7,x7),(8,x8),(9,x9),(10,x10),(28,x28),(29,x29),(30,x30),(44,x44),(45,x45),(46,x46)],[],⟨B,H⟩⟩
@[simp] theorem u156_1 (s : St) (k : K) : Run G c156_L1 s k = Run G c156_B1 { s with E:=AK [11,12,13,31,39,47,55,64,65,66,67,103] s.E } (.seq c156_L1 k):=AQ _ _ s k
abbrev S156_2 (x2 x4 x5 x6 x7 x28 x29 x30 : V) (B : List (Nat × List V)) (H : Hp) : St:=⟨[(2,x2),(4,x4),(5,x5),(6,x6),(7,x7),(28,x28),(29,x29),(30,x30)],[],⟨B,H⟩⟩
@[simp] theorem u156_2 (s : St) (k : K) : Run G c156_L2 s k = Run G c156_B2 { s with E:=AK [0,1,8,9,10,31,39,44,45,46,47] s.E } (.seq c156_L2 k):=AQ _ _ s k
abbrev S188_0 (x1 x2 x4 x5 x6 x8 x9 x15 x16 x17 x24 x25 x26 : V) (B : List (Nat × List V)) (H : Hp) : St:=⟨[(1,x1),(2,x2),(4,x4),(5,x5),(6,x6),(8,x8),(9,x9),(15,x15),(16,x16),(17,x17),(24,x24),(25,x25),(26,x26)],[],⟨B,H⟩⟩
@[simp] theorem u188_0 (s : St) (k : K) : Run G c188_L0 s k = Run G c188_B0 { s with E:=AK [10,11,18,27,33] s.E } (.seq c188_L0 k):=AQ _ _ s k
abbrev S188_1 (x1 x2 x4 x5 x6 x15 x16 x17 : V) (B : List (Nat × List V)) (H : Hp) : St:=⟨[(1,x1),(2,x2),(4,x4),(5,x5),(6,x6),(15,x15),(16,x16),(17,x17)],[],⟨B,H⟩⟩
@[simp] theorem u188_1 (s : St) (k : K) : Run G c188_L1 s k = Run G c188_B1 { s with E:=AK [0,8,9,24,25,26,27] s.E } (.seq c188_L1 k):=AQ _ _ s k
abbrev S190_0 (x0 x1 x2 x7 x14 x15 x16 : V) (B : List (Nat × List V)) (H : Hp) : St:=⟨[(0,x0),(1,x1),(2,x2),(7,x7),(14,x14),(15,x15),(16,x16)],[],⟨B,H⟩⟩
@[simp] theorem u190_0 (s : St) (k : K) : Run G c190_L0 s k = Run G c190_B0 { s with E:=AK [6,9,17] s.E } (.seq c190_L0 k):=AQ _ _ s k
abbrev S207_0 (x0 x1 x3 x4 x7 x33 x34 x35 : V) (B : List (Nat × List V)) (H : Hp) : St:=⟨[(0,x0),(1,x1),(3,x3),(4,x4),(7,x7),(33,x33),(34,x34),(35,x35)],[],⟨B,H⟩⟩
@[simp] theorem u207_0 (s : St) (k : K) : Run G c207_L0 s k = Run G c207_B0 { s with E:=AK [2,6,8,9,14,20,21,22,24,25,26,27,29,30,31,36,42] s.E } (.seq c207_L0 k):=AQ _ _ s k
end Go.Mx.Tryz
