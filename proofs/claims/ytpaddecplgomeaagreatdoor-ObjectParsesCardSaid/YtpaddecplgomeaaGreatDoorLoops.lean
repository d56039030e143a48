/- The loops of this seat, one round at a time. -/
import Derived.Test.YtpaddecplgomeaaGreatDoorSeat
namespace Go.Mx.Tryz
abbrev S28_0 (x1 x3 x7 : V) (B : List (Nat × List V)) (H : Hp) : St:=⟨[(1,x1),(3,x3),(7,x7)],[],⟨B,H⟩⟩
@[simp] theorem u28_0 (s : St) (k : K) : Run G c28_L0 s k = Run G c28_B0 { s with E:=Az [0,2,4,5,6,8,22] s.E } (.seq c28_L0 k):=Aw _ _ s k
@[simp] theorem u37_0 (s : St) (k : K) : Run G c37_L0 s k = Run G c37_B0 { s with E:=Az [4,15,28,50,72] s.E } (.seq c37_L0 k):=Aw _ _ s k
abbrev S43_0 (x0 x3 : V) (B : List (Nat × List V)) (H : Hp) : St:=⟨[(0,x0),(3,x3)],[],⟨B,H⟩⟩
@[simp] theorem u43_0 (s : St) (k : K) : Run G c43_L0 s k = Run G c43_B0 { s with E:=Az [2,7,54] s.E } (.seq c43_L0 k):=Aw _ _ s k
@[simp] theorem u44_0 (s : St) (k : K) : Run G c44_L0 s k = Run G c44_B0 { s with E:=Az [1,9,20] s.E } (.seq c44_L0 k):=Aw _ _ s k
abbrev S52_0 (x0 x4 x5 x6 x7 x8 x9 x10 : V) (B : List (Nat × List V)) (H : Hp) : St:=⟨[(0,x0),(4,x4),(5,x5),(6,x6),(7,x7),(8,x8),(9,x9),(10,x10)],[],⟨B,H⟩⟩
@[simp] theorem u52_0 (s : St) (k : K) : Run G c52_L0 s k = Run G c52_B0 { s with E:=Az [21,32,44,49,65,68] s.E } (.seq c52_L0 k):=Aw _ _ s k
abbrev S52_1 (x0 x4 x5 x6 x7 x8 : V) (B : List (Nat × List V)) (H : Hp) : St:=⟨[(0,x0),(4,x4),(5,x5),(6,x6),(7,x7),(8,x8)],[],⟨B,H⟩⟩
@[simp] theorem u52_1 (s : St) (k : K) : Run G c52_L1 s k = Run G c52_B1 { s with E:=Az [2,3,9,10,15,17,21,32,40,44,49,68,91] s.E } (.seq c52_L1 k):=Aw _ _ s k
abbrev S55_0 (x0 x3 x4 x5 : V) (B : List (Nat × List V)) (H : Hp) : St:=⟨[(0,x0),(3,x3),(4,x4),(5,x5)],[],⟨B,H⟩⟩
@[simp] theorem u55_0 (s : St) (k : K) : Run G c55_L0 s k = Run G c55_B0 { s with E:=Az [2,9,15] s.E } (.seq c55_L0 k):=Aw _ _ s k
abbrev S63_0 (x0 x4 x6 x18 x19 x20 : V) (B : List (Nat × List V)) (H : Hp) : St:=⟨[(0,x0),(4,x4),(6,x6),(18,x18),(19,x19),(20,x20)],[],⟨B,H⟩⟩
@[simp] theorem u63_0 (s : St) (k : K) : Run G c63_L0 s k = Run G c63_B0 { s with E:=Az [1,3,5,7,8,13,21] s.E } (.seq c63_L0 k):=Aw _ _ s k
abbrev S63_1 (x4 x6 x9 x10 : V) (B : List (Nat × List V)) (H : Hp) : St:=⟨[(4,x4),(6,x6),(9,x9),(10,x10)],[],⟨B,H⟩⟩
@[simp] theorem u63_1 (s : St) (k : K) : Run G c63_L1 s k = Run G c63_B1 { s with E:=Az [34,39,54] s.E } (.seq c63_L1 k):=Aw _ _ s k
abbrev S63_2 (x4 x6 x9 : V) (B : List (Nat × List V)) (H : Hp) : St:=⟨[(4,x4),(6,x6),(9,x9)],[],⟨B,H⟩⟩
@[simp] theorem u63_2 (s : St) (k : K) : Run G c63_L2 s k = Run G c63_B2 { s with E:=Az [0,10,18,19,20,21,39] s.E } (.seq c63_L2 k):=Aw _ _ s k
abbrev S69_0 (x0 x8 x9 x10 : V) (B : List (Nat × List V)) (H : Hp) : St:=⟨[(0,x0),(8,x8),(9,x9),(10,x10)],[],⟨B,H⟩⟩
@[simp] theorem u69_0 (s : St) (k : K) : Run G c69_L0 s k = Run G c69_B0 { s with E:=Az [2,3,4,7,11,42] s.E } (.seq c69_L0 k):=Aw _ _ s k
abbrev S71_0 (x3 x5 x24 x25 x26 : V) (B : List (Nat × List V)) (H : Hp) : St:=⟨[(3,x3),(5,x5),(24,x24),(25,x25),(26,x26)],[],⟨B,H⟩⟩
@[simp] theorem u71_0 (s : St) (k : K) : Run G c71_L0 s k = Run G c71_B0 { s with E:=Az [0,2,4,7,19,27] s.E } (.seq c71_L0 k):=Aw _ _ s k
abbrev S74_0 (x3 x6 x7 x8 x12 x13 x14 : V) (B : List (Nat × List V)) (H : Hp) : St:=⟨[(3,x3),(6,x6),(7,x7),(8,x8),(12,x12),(13,x13),(14,x14)],[],⟨B,H⟩⟩
@[simp] theorem u74_0 (s : St) (k : K) : Run G c74_L0 s k = Run G c74_B0 { s with E:=Az [0,2,4,5,10,15,21,33] s.E } (.seq c74_L0 k):=Aw _ _ s k
@[simp] theorem u75_0 (s : St) (k : K) : Run G c75_L0 s k = Run G c75_B0 { s with E:=Az [0,2,5,9,14] s.E } (.seq c75_L0 k):=Aw _ _ s k
abbrev S81_0 (x0 x1 x5 x6 x7 x8 : V) (B : List (Nat × List V)) (H : Hp) : St:=⟨[(0,x0),(1,x1),(5,x5),(6,x6),(7,x7),(8,x8)],[],⟨B,H⟩⟩
@[simp] theorem u81_0 (s : St) (k : K) : Run G c81_L0 s k = Run G c81_B0 { s with E:=Az [4,9,16,39,49] s.E } (.seq c81_L0 k):=Aw _ _ s k
abbrev S81_1 (x5 x6 x7 x10 : V) (B : List (Nat × List V)) (H : Hp) : St:=⟨[(5,x5),(6,x6),(7,x7),(10,x10)],[],⟨B,H⟩⟩
@[simp] theorem u81_1 (s : St) (k : K) : Run G c81_L1 s k = Run G c81_B1 { s with E:=Az [0,1,8,16,68] s.E } (.seq c81_L1 k):=Aw _ _ s k
abbrev S83_0 (x0 x3 x5 x6 x7 x8 : V) (B : List (Nat × List V)) (H : Hp) : St:=⟨[(0,x0),(3,x3),(5,x5),(6,x6),(7,x7),(8,x8)],[],⟨B,H⟩⟩
@[simp] theorem u83_0 (s : St) (k : K) : Run G c83_L0 s k = Run G c83_B0 { s with E:=Az [4,15,23,36,87] s.E } (.seq c83_L0 k):=Aw _ _ s k
abbrev S83_1 (x0 x3 x4 x5 x6 : V) (B : List (Nat × List V)) (H : Hp) : St:=⟨[(0,x0),(3,x3),(4,x4),(5,x5),(6,x6)],[],⟨B,H⟩⟩
@[simp] theorem u83_1 (s : St) (k : K) : Run G c83_L1 s k = Run G c83_B1 { s with E:=Az [2,7,8,11,87] s.E } (.seq c83_L1 k):=Aw _ _ s k
abbrev S92_0 (x0 x4 x5 : V) (B : List (Nat × List V)) (H : Hp) : St:=⟨[(0,x0),(4,x4),(5,x5)],[],⟨B,H⟩⟩
@[simp] theorem u92_0 (s : St) (k : K) : Run G c92_L0 s k = Run G c92_B0 { s with E:=Az [2,3,11,25,39] s.E } (.seq c92_L0 k):=Aw _ _ s k
abbrev S92_1 (x0 x4 x6 : V) (B : List (Nat × List V)) (H : Hp) : St:=⟨[(0,x0),(4,x4),(6,x6)],[],⟨B,H⟩⟩
@[simp] theorem u92_1 (s : St) (k : K) : Run G c92_L1 s k = Run G c92_B1 { s with E:=Az [5,11,43,51] s.E } (.seq c92_L1 k):=Aw _ _ s k
abbrev S92_2 (x4 x7 : V) (B : List (Nat × List V)) (H : Hp) : St:=⟨[(4,x4),(7,x7)],[],⟨B,H⟩⟩
@[simp] theorem u92_2 (s : St) (k : K) : Run G c92_L2 s k = Run G c92_B2 { s with E:=Az [0,6,43,61,74] s.E } (.seq c92_L2 k):=Aw _ _ s k
abbrev S96_0 (x0 x1 x2 x3 x9 x10 : V) (B : List (Nat × List V)) (H : Hp) : St:=⟨[(0,x0),(1,x1),(2,x2),(3,x3),(9,x9),(10,x10)],[],⟨B,H⟩⟩
@[simp] theorem u96_0 (s : St) (k : K) : Run G c96_L0 s k = Run G c96_B0 { s with E:=Az [8,11,13,15,20,36,41] s.E } (.seq c96_L0 k):=Aw _ _ s k
abbrev S99_0 (x0 x4 x5 x6 : V) (B : List (Nat × List V)) (H : Hp) : St:=⟨[(0,x0),(4,x4),(5,x5),(6,x6)],[],⟨B,H⟩⟩
@[simp] theorem u99_0 (s : St) (k : K) : Run G c99_L0 s k = Run G c99_B0 { s with E:=Az [2,3,15,33,37,49] s.E } (.seq c99_L0 k):=Aw _ _ s k
abbrev S105_0 (x2 x4 x5 x6 x7 x8 x9 x10 x11 x13 x28 x29 x30 x44 x45 x46 x64 x65 x66 : V) (B : List (Nat × List V)) (H : Hp) : St:=⟨[(2,x2),(4,x4),(5,x5),(6,x6),(7,x7),(8,x8),(9,x9),(10,x10),(11,x11),(13,x13),(28,x28),(29,x29),(30,x30),(44,x44),(45,x45),(46,x46),(64,x64),(65,x65),(66,x66)],[],⟨B,H⟩⟩
@[simp] theorem u105_0 (s : St) (k : K) : Run G c105_L0 s k = Run G c105_B0 { s with E:=Az [12,14,15,47,55,67,84] s.E } (.seq c105_L0 k):=Aw _ _ s k
abbrev S105_1 (x2 x4 x5 x6 x7 x8 x9 x10 x28 x29 x30 x44 x45 x46 : V) (B : List (Nat × List V)) (H : Hp) : St:=⟨[(2,x2),(4,x4),(5,x5),(6,x6),(7,x7),(8,x8),(9,x9),(10,x10),(28,x28),(29,x29),(30,x30),(44,x44),(45,x45),(46,x46)],[],⟨B,H⟩⟩
@[simp] theorem u105_1 (s : St) (k : K) : Run G c105_L1 s k = Run G c105_B1 { s with E:=Az [11,12,13,31,39,47,55,64,65,66,67,103] s.E } (.seq c105_L1 k):=Aw _ _ s k
abbrev S105_2 (x2 x4 x5 x6 x7 x28 x29 x30 : V) (B : List (Nat × List V)) (H : Hp) : St:=⟨[(2,x2),(4,x4),(5,x5),(6,x6),(7,x7),(28,x28),(29,x29),(30,x30)],[],⟨B,H⟩⟩
@[simp] theorem u105_2 (s : St) (k : K) : Run G c105_L2 s k = Run G c105_B2 { s with E:=Az [0,1,8,9,10,31,39,44,45,46,47] s.E } (.seq c105_L2 k):=Aw _ _ s k
abbrev S114_0 (x4 x8 x9 x10 : V) (B : List (Nat × List V)) (H : Hp) : St:=⟨[(4,x4),(8,x8),(9,x9),(10,x10)],[],⟨B,H⟩⟩
@[simp] theorem u114_0 (s : St) (k : K) : Run G c114_L0 s k = Run G c114_B0 { s with E:=Az [0,2,3,6,11,14,19,28] s.E } (.seq c114_L0 k):=Aw _ _ s k
abbrev S114_1 (x4 x7 : V) (B : List (Nat × List V)) (H : Hp) : St:=⟨[(4,x4),(7,x7)],[],⟨B,H⟩⟩
@[simp] theorem u114_1 (s : St) (k : K) : Run G c114_L1 s k = Run G c114_B1 { s with E:=Az [8,9,10,11,42,56] s.E } (.seq c114_L1 k):=Aw _ _ s k
abbrev S118_0 (x0 x2 x4 x5 x26 x27 x28 : V) (B : List (Nat × List V)) (H : Hp) : St:=⟨[(0,x0),(2,x2),(4,x4),(5,x5),(26,x26),(27,x27),(28,x28)],[],⟨B,H⟩⟩
@[simp] theorem u118_0 (s : St) (k : K) : Run G c118_L0 s k = Run G c118_B0 { s with E:=Az [3,7,16,29] s.E } (.seq c118_L0 k):=Aw _ _ s k
abbrev S131_0 (x0 x2 x4 x5 x6 x7 x8 : V) (B : List (Nat × List V)) (H : Hp) : St:=⟨[(0,x0),(2,x2),(4,x4),(5,x5),(6,x6),(7,x7),(8,x8)],[],⟨B,H⟩⟩
@[simp] theorem u131_0 (s : St) (k : K) : Run G c131_L0 s k = Run G c131_B0 { s with E:=Az [3,16,37] s.E } (.seq c131_L0 k):=Aw _ _ s k
abbrev S139_0 (x0 x3 x4 x5 x6 x7 : V) (B : List (Nat × List V)) (H : Hp) : St:=⟨[(0,x0),(3,x3),(4,x4),(5,x5),(6,x6),(7,x7)],[],⟨B,H⟩⟩
@[simp] theorem u139_0 (s : St) (k : K) : Run G c139_L0 s k = Run G c139_B0 { s with E:=Az [8,14,24,40] s.E } (.seq c139_L0 k):=Aw _ _ s k
abbrev S139_1 (x0 x3 x4 x5 x6 x9 x10 : V) (B : List (Nat × List V)) (H : Hp) : St:=⟨[(0,x0),(3,x3),(4,x4),(5,x5),(6,x6),(9,x9),(10,x10)],[],⟨B,H⟩⟩
@[simp] theorem u139_1 (s : St) (k : K) : Run G c139_L1 s k = Run G c139_B1 { s with E:=Az [7,24,53,74] s.E } (.seq c139_L1 k):=Aw _ _ s k
abbrev S139_2 (x0 x3 x4 x5 : V) (B : List (Nat × List V)) (H : Hp) : St:=⟨[(0,x0),(3,x3),(4,x4),(5,x5)],[],⟨B,H⟩⟩
@[simp] theorem u139_2 (s : St) (k : K) : Run G c139_L2 s k = Run G c139_B2 { s with E:=Az [2,6,9,10,53] s.E } (.seq c139_L2 k):=Aw _ _ s k
abbrev S141_0 (x0 x3 x5 x6 x7 : V) (B : List (Nat × List V)) (H : Hp) : St:=⟨[(0,x0),(3,x3),(5,x5),(6,x6),(7,x7)],[],⟨B,H⟩⟩
@[simp] theorem u141_0 (s : St) (k : K) : Run G c141_L0 s k = Run G c141_B0 { s with E:=Az [1,4,11,23] s.E } (.seq c141_L0 k):=Aw _ _ s k
abbrev S143_0 (x0 x4 x5 x6 x7 x11 x12 x14 x15 : V) (B : List (Nat × List V)) (H : Hp) : St:=⟨[(0,x0),(4,x4),(5,x5),(6,x6),(7,x7),(11,x11),(12,x12),(14,x14),(15,x15)],[],⟨B,H⟩⟩
@[simp] theorem u143_0 (s : St) (k : K) : Run G c143_L0 s k = Run G c143_B0 { s with E:=Az [8,9,10,16,26,40,42,49,64,70] s.E } (.seq c143_L0 k):=Aw _ _ s k
abbrev S143_1 (x0 x4 x5 x6 x7 x8 x14 x15 : V) (B : List (Nat × List V)) (H : Hp) : St:=⟨[(0,x0),(4,x4),(5,x5),(6,x6),(7,x7),(8,x8),(14,x14),(15,x15)],[],⟨B,H⟩⟩
@[simp] theorem u143_1 (s : St) (k : K) : Run G c143_L1 s k = Run G c143_B1 { s with E:=Az [2,3,9,10,11,12,16,26,36,40,42,49,64,83] s.E } (.seq c143_L1 k):=Aw _ _ s k
abbrev S158_0 (x1 x2 x4 x5 x6 x8 x9 x15 x16 x17 x24 x25 x26 : V) (B : List (Nat × List V)) (H : Hp) : St:=⟨[(1,x1),(2,x2),(4,x4),(5,x5),(6,x6),(8,x8),(9,x9),(15,x15),(16,x16),(17,x17),(24,x24),(25,x25),(26,x26)],[],⟨B,H⟩⟩
@[simp] theorem u158_0 (s : St) (k : K) : Run G c158_L0 s k = Run G c158_B0 { s with E:=Az [10,11,18,27,33] s.E } (.seq c158_L0 k):=Aw _ _ s k
abbrev S158_1 (x1 x2 x4 x5 x6 x15 x16 x17 : V) (B : List (Nat × List V)) (H : Hp) : St:=⟨[(1,x1),(2,x2),(4,x4),(5,x5),(6,x6),(15,x15),(16,x16),(17,x17)],[],⟨B,H⟩⟩
@[simp] theorem u158_1 (s : St) (k : K) : Run G c158_L1 s k = Run G c158_B1 { s with E:=Az [0,8,9,24,25,26,27] s.E } (.seq c158_L1 k):=Aw _ _ s k
abbrev S160_0 (x0 x1 x2 x7 x14 x15 x16 : V) (B : List (Nat × List V)) (H : Hp) : St:=⟨[(0,x0),(1,x1),(2,x2),(7,x7),(14,x14),(15,x15),(16,x16)],[],⟨B,H⟩⟩
@[simp] theorem u160_0 (s : St) (k : K) : Run G c160_L0 s k = Run G c160_B0 { s with E:=Az [6,9,17] s.E } (.seq c160_L0 k):=Aw _ _ s k
@[simp] theorem u168_0 (s : St) (k : K) : Run G c168_L0 s k = Run G c168_B0 { s with E:=Az [1,4,5,8,9,12,19] s.E } (.seq c168_L0 k):=Aw _ _ s k
abbrev S175_0 (x0 x1 x5 : V) (B : List (Nat × List V)) (H : Hp) : St:=⟨[(0,x0),(1,x1),(5,x5)],[],⟨B,H⟩⟩
@[simp] theorem u175_0 (s : St) (k : K) : Run G c175_L0 s k = Run G c175_B0 { s with E:=Az [4,10,14,25] s.E } (.seq c175_L0 k):=Aw _ _ s k
abbrev S180_0 (x0 x1 x4 : V) (B : List (Nat × List V)) (H : Hp) : St:=⟨[(0,x0),(1,x1),(4,x4)],[],⟨B,H⟩⟩
@[simp] theorem u180_0 (s : St) (k : K) : Run G c180_L0 s k = Run G c180_B0 { s with E:=Az [5,6,7,8,9,10,11,20] s.E } (.seq c180_L0 k):=Aw _ _ s k
abbrev S195_0 (x0 x1 x3 x4 x7 x33 x34 x35 : V) (B : List (Nat × List V)) (H : Hp) : St:=⟨[(0,x0),(1,x1),(3,x3),(4,x4),(7,x7),(33,x33),(34,x34),(35,x35)],[],⟨B,H⟩⟩
@[simp] theorem u195_0 (s : St) (k : K) : Run G c195_L0 s k = Run G c195_B0 { s with E:=Az [2,6,8,9,14,20,21,22,24,25,26,27,29,30,31,36,42] s.E } (.seq c195_L0 k):=Aw _ _ s k
abbrev S196_0 (x0 x1 x2 x3 x4 x10 x11 : V) (B : List (Nat × List V)) (H : Hp) : St:=⟨[(0,x0),(1,x1),(2,x2),(3,x3),(4,x4),(10,x10),(11,x11)],[],⟨B,H⟩⟩
@[simp] theorem u196_0 (s : St) (k : K) : Run G c196_L0 s k = Run G c196_B0 { s with E:=Az [12,13,14,15,16,17,18,19,20,25,32,39,56,75,80,97,125] s.E } (.seq c196_L0 k):=Aw _ _ s k
abbrev S215_0 (x0 x1 x2 x3 x8 x9 : V) (B : List (Nat × List V)) (H : Hp) : St:=⟨[(0,x0),(1,x1),(2,x2),(3,x3),(8,x8),(9,x9)],[],⟨B,H⟩⟩
@[simp] theorem u215_0 (s : St) (k : K) : Run G c215_L0 s k = Run G c215_B0 { s with E:=Az [14,34] s.E } (.seq c215_L0 k):=Aw _ _ s k
abbrev S215_1 (x0 x1 x2 x3 x8 : V) (B : List (Nat × List V)) (H : Hp) : St:=⟨[(0,x0),(1,x1),(2,x2),(3,x3),(8,x8)],[],⟨B,H⟩⟩
@[simp] theorem u215_1 (s : St) (k : K) : Run G c215_L1 s k = Run G c215_B1 { s with E:=Az [9,34] s.E } (.seq c215_L1 k):=Aw _ _ s k
abbrev S216_0 (x0 x3 x8 x9 x10 x11 : V) (B : List (Nat × List V)) (H : Hp) : St:=⟨[(0,x0),(3,x3),(8,x8),(9,x9),(10,x10),(11,x11)],[],⟨B,H⟩⟩
@[simp] theorem u216_0 (s : St) (k : K) : Run G c216_L0 s k = Run G c216_B0 { s with E:=Az [1,2,21] s.E } (.seq c216_L0 k):=Aw _ _ s k
abbrev S216_1 (x0 x3 x8 x9 x12 : V) (B : List (Nat × List V)) (H : Hp) : St:=⟨[(0,x0),(3,x3),(8,x8),(9,x9),(12,x12)],[],⟨B,H⟩⟩
@[simp] theorem u216_1 (s : St) (k : K) : Run G c216_L1 s k = Run G c216_B1 { s with E:=Az [10,11,21,33] s.E } (.seq c216_L1 k):=Aw _ _ s k
abbrev S217_0 (x0 x1 x8 x9 x10 x11 : V) (B : List (Nat × List V)) (H : Hp) : St:=⟨[(0,x0),(1,x1),(8,x8),(9,x9),(10,x10),(11,x11)],[],⟨B,H⟩⟩
@[simp] theorem u217_0 (s : St) (k : K) : Run G c217_L0 s k = Run G c217_B0 { s with E:=Az [2,3,12,17,35,45] s.E } (.seq c217_L0 k):=Aw _ _ s k
abbrev S219_0 (x0 x8 x9 : V) (B : List (Nat × List V)) (H : Hp) : St:=⟨[(0,x0),(8,x8),(9,x9)],[],⟨B,H⟩⟩
@[simp] theorem u219_0 (s : St) (k : K) : Run G c219_L0 s k = Run G c219_B0 { s with E:=Az [1,2,3,15] s.E } (.seq c219_L0 k):=Aw _ _ s k
abbrev S220_0 (x0 x1 x2 x3 x9 x10 : V) (B : List (Nat × List V)) (H : Hp) : St:=⟨[(0,x0),(1,x1),(2,x2),(3,x3),(9,x9),(10,x10)],[],⟨B,H⟩⟩
@[simp] theorem u220_0 (s : St) (k : K) : Run G c220_L0 s k = Run G c220_B0 { s with E:=Az [16,36] s.E } (.seq c220_L0 k):=Aw _ _ s k
abbrev S220_1 (x0 x1 x2 x3 x9 x10 x11 : V) (B : List (Nat × List V)) (H : Hp) : St:=⟨[(0,x0),(1,x1),(2,x2),(3,x3),(9,x9),(10,x10),(11,x11)],[],⟨B,H⟩⟩
@[simp] theorem u220_1 (s : St) (k : K) : Run G c220_L1 s k = Run G c220_B1 { s with E:=Az [36,41,45,65,69,84] s.E } (.seq c220_L1 k):=Aw _ _ s k
abbrev S220_2 (x0 x1 x2 x3 x9 x10 x12 : V) (B : List (Nat × List V)) (H : Hp) : St:=⟨[(0,x0),(1,x1),(2,x2),(3,x3),(9,x9),(10,x10),(12,x12)],[],⟨B,H⟩⟩
@[simp] theorem u220_2 (s : St) (k : K) : Run G c220_L2 s k = Run G c220_B2 { s with E:=Az [11,36,41,45,65,69,84,104,109,124] s.E } (.seq c220_L2 k):=Aw _ _ s k
abbrev S220_3 (x0 x1 x2 x3 x9 x10 : V) (B : List (Nat × List V)) (H : Hp) : St:=⟨[(0,x0),(1,x1),(2,x2),(3,x3),(9,x9),(10,x10)],[],⟨B,H⟩⟩
@[simp] theorem u220_3 (s : St) (k : K) : Run G c220_L3 s k = Run G c220_B3 { s with E:=Az [8,11,12,36,41,45,65,69,84,104,109,124] s.E } (.seq c220_L3 k):=Aw _ _ s k
abbrev S221_0 (x0 x1 x4 x11 x12 : V) (B : List (Nat × List V)) (H : Hp) : St:=⟨[(0,x0),(1,x1),(4,x4),(11,x11),(12,x12)],[],⟨B,H⟩⟩
@[simp] theorem u221_0 (s : St) (k : K) : Run G c221_L0 s k = Run G c221_B0 { s with E:=Az [2,3,10,47,65,70] s.E } (.seq c221_L0 k):=Aw _ _ s k
abbrev S221_1 (x0 x1 x4 x11 x12 : V) (B : List (Nat × List V)) (H : Hp) : St:=⟨[(0,x0),(1,x1),(4,x4),(11,x11),(12,x12)],[],⟨B,H⟩⟩
@[simp] theorem u221_1 (s : St) (k : K) : Run G c221_L1 s k = Run G c221_B1 { s with E:=Az [47,65] s.E } (.seq c221_L1 k):=Aw _ _ s k
abbrev S221_2 (x0 x1 x4 x11 x12 : V) (B : List (Nat × List V)) (H : Hp) : St:=⟨[(0,x0),(1,x1),(4,x4),(11,x11),(12,x12)],[],⟨B,H⟩⟩
@[simp] theorem u221_2 (s : St) (k : K) : Run G c221_L2 s k = Run G c221_B2 { s with E:=Az [2,3,10,47,65,70] s.E } (.seq c221_L2 k):=Aw _ _ s k
abbrev S222_0 (x0 x1 x4 x12 x13 : V) (B : List (Nat × List V)) (H : Hp) : St:=⟨[(0,x0),(1,x1),(4,x4),(12,x12),(13,x13)],[],⟨B,H⟩⟩
@[simp] theorem u222_0 (s : St) (k : K) : Run G c222_L0 s k = Run G c222_B0 { s with E:=Az [2,3,10,11,47] s.E } (.seq c222_L0 k):=Aw _ _ s k
abbrev S222_1 (x0 x1 x4 x12 x13 : V) (B : List (Nat × List V)) (H : Hp) : St:=⟨[(0,x0),(1,x1),(4,x4),(12,x12),(13,x13)],[],⟨B,H⟩⟩
@[simp] theorem u222_1 (s : St) (k : K) : Run G c222_L1 s k = Run G c222_B1 { s with E:=Az [47,66] s.E } (.seq c222_L1 k):=Aw _ _ s k
abbrev S222_2 (x0 x1 x4 x12 x13 : V) (B : List (Nat × List V)) (H : Hp) : St:=⟨[(0,x0),(1,x1),(4,x4),(12,x12),(13,x13)],[],⟨B,H⟩⟩
@[simp] theorem u222_2 (s : St) (k : K) : Run G c222_L2 s k = Run G c222_B2 { s with E:=Az [66,71,120,139,144] s.E } (.seq c222_L2 k):=Aw _ _ s k
abbrev S222_3 (x0 x1 x4 x12 x13 : V) (B : List (Nat × List V)) (H : Hp) : St:=⟨[(0,x0),(1,x1),(4,x4),(12,x12),(13,x13)],[],⟨B,H⟩⟩
@[simp] theorem u222_3 (s : St) (k : K) : Run G c222_L3 s k = Run G c222_B3 { s with E:=Az [120,139] s.E } (.seq c222_L3 k):=Aw _ _ s k
abbrev S222_4 (x0 x1 x4 x12 x13 : V) (B : List (Nat × List V)) (H : Hp) : St:=⟨[(0,x0),(1,x1),(4,x4),(12,x12),(13,x13)],[],⟨B,H⟩⟩
@[simp] theorem u222_4 (s : St) (k : K) : Run G c222_L4 s k = Run G c222_B4 { s with E:=Az [66,71,120,139,144] s.E } (.seq c222_L4 k):=Aw _ _ s k
abbrev S229_0 (x0 x2 x3 x4 x10 : V) (B : List (Nat × List V)) (H : Hp) : St:=⟨[(0,x0),(2,x2),(3,x3),(4,x4),(10,x10)],[],⟨B,H⟩⟩
@[simp] theorem u229_0 (s : St) (k : K) : Run G c229_L0 s k = Run G c229_B0 { s with E:=Az [1,11,18,40,58] s.E } (.seq c229_L0 k):=Aw _ _ s k
end Go.Mx.Tryz
