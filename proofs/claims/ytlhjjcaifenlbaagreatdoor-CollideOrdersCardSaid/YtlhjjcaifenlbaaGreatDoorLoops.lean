/- The loops of this seat, one round at a time. -/
import Derived.Test.YtlhjjcaifenlbaaGreatDoorSeat
namespace Go.Mx.Tryz
abbrev S8_0 (x2 x3 x7 x59 x60:V)(B:List (Nat×List V))(H:Hp):St:=⟨[(2,x2),(3,x3),(7,x7),(59,x59),(60,x60)],[],⟨B,H⟩⟩
@[simp] theorem u8_0 (s:St)(k:K):Run G c8_L0 s k=Run G c8_B0 { s with E:=AF [0,1,4,5,6,8,9,10,11,12,13,21,39,61,98] s.E } (.seq c8_L0 k):=Aw _ _ s k
abbrev S9_0 (x2 x3 x5 x6:V)(B:List (Nat×List V))(H:Hp):St:=⟨[(2,x2),(3,x3),(5,x5),(6,x6)],[],⟨B,H⟩⟩
@[simp] theorem u9_0 (s:St)(k:K):Run G c9_L0 s k=Run G c9_B0 { s with E:=AF [0,1,4,18,25] s.E } (.seq c9_L0 k):=Aw _ _ s k
abbrev S10_0 (x1 x16 x17:V)(B:List (Nat×List V))(H:Hp):St:=⟨[(1,x1),(16,x16),(17,x17)],[],⟨B,H⟩⟩
@[simp] theorem u10_0 (s:St)(k:K):Run G c10_L0 s k=Run G c10_B0 { s with E:=AF [0,2,3,13,18,27] s.E } (.seq c10_L0 k):=Aw _ _ s k
abbrev S21_0 (x2 x3 x9 x10:V)(B:List (Nat×List V))(H:Hp):St:=⟨[(2,x2),(3,x3),(9,x9),(10,x10)],[],⟨B,H⟩⟩
@[simp] theorem u21_0 (s:St)(k:K):Run G c21_L0 s k=Run G c21_B0 { s with E:=AF [0,1,4,5,11,40] s.E } (.seq c21_L0 k):=Aw _ _ s k
abbrev S21_1 (x2 x3 x44 x45:V)(B:List (Nat×List V))(H:Hp):St:=⟨[(2,x2),(3,x3),(44,x44),(45,x45)],[],⟨B,H⟩⟩
@[simp] theorem u21_1 (s:St)(k:K):Run G c21_L1 s k=Run G c21_B1 { s with E:=AF [6,9,10,11,46,63] s.E } (.seq c21_L1 k):=Aw _ _ s k
abbrev S23_0 (x3 x4 x10 x12 x13 x14 x51 x52:V)(B:List (Nat×List V))(H:Hp):St:=⟨[(3,x3),(4,x4),(10,x10),(12,x12),(13,x13),(14,x14),(51,x51),(52,x52)],[],⟨B,H⟩⟩
@[simp] theorem u23_0 (s:St)(k:K):Run G c23_L0 s k=Run G c23_B0 { s with E:=AF [11,15,47,53,68] s.E } (.seq c23_L0 k):=Aw _ _ s k
abbrev S23_1 (x3 x4 x10 x12 x13 x14:V)(B:List (Nat×List V))(H:Hp):St:=⟨[(3,x3),(4,x4),(10,x10),(12,x12),(13,x13),(14,x14)],[],⟨B,H⟩⟩
@[simp] theorem u23_1 (s:St)(k:K):Run G c23_L1 s k=Run G c23_B1 { s with E:=AF [0,1,2,8,9,11,16,17,26,33,36,43,51,52,53,78,82,96] s.E } (.seq c23_L1 k):=Aw _ _ s k
abbrev S30_0 (x0 x5 x6 x7 x8:V)(B:List (Nat×List V))(H:Hp):St:=⟨[(0,x0),(5,x5),(6,x6),(7,x7),(8,x8)],[],⟨B,H⟩⟩
@[simp] theorem u30_0 (s:St)(k:K):Run G c30_L0 s k=Run G c30_B0 { s with E:=AF [4,9,13,28,39,59,91] s.E } (.seq c30_L0 k):=Aw _ _ s k
abbrev S30_1 (x0 x4 x5:V)(B:List (Nat×List V))(H:Hp):St:=⟨[(0,x0),(4,x4),(5,x5)],[],⟨B,H⟩⟩
@[simp] theorem u30_1 (s:St)(k:K):Run G c30_L1 s k=Run G c30_B1 { s with E:=AF [2,3,6,7,8,28] s.E } (.seq c30_L1 k):=Aw _ _ s k
abbrev S35_0 (x4 x8 x9 x10:V)(B:List (Nat×List V))(H:Hp):St:=⟨[(4,x4),(8,x8),(9,x9),(10,x10)],[],⟨B,H⟩⟩
@[simp] theorem u35_0 (s:St)(k:K):Run G c35_L0 s k=Run G c35_B0 { s with E:=AF [0,2,3,6,11,14,19,28] s.E } (.seq c35_L0 k):=Aw _ _ s k
abbrev S35_1 (x4 x7:V)(B:List (Nat×List V))(H:Hp):St:=⟨[(4,x4),(7,x7)],[],⟨B,H⟩⟩
@[simp] theorem u35_1 (s:St)(k:K):Run G c35_L1 s k=Run G c35_B1 { s with E:=AF [8,9,10,11,42,56] s.E } (.seq c35_L1 k):=Aw _ _ s k
abbrev S41_0 (x1 x3 x23 x24:V)(B:List (Nat×List V))(H:Hp):St:=⟨[(1,x1),(3,x3),(23,x23),(24,x24)],[],⟨B,H⟩⟩
@[simp] theorem u41_0 (s:St)(k:K):Run G c41_L0 s k=Run G c41_B0 { s with E:=AF [0,2,6,7,8,9,10,15,22,25,33] s.E } (.seq c41_L0 k):=Aw _ _ s k
abbrev S44_0 (x0 x1 x5:V)(B:List (Nat×List V))(H:Hp):St:=⟨[(0,x0),(1,x1),(5,x5)],[],⟨B,H⟩⟩
@[simp] theorem u44_0 (s:St)(k:K):Run G c44_L0 s k=Run G c44_B0 { s with E:=AF [4,15,28,50,72] s.E } (.seq c44_L0 k):=Aw _ _ s k
abbrev S46_0 (x1 x2 x8 x26 x27:V)(B:List (Nat×List V))(H:Hp):St:=⟨[(1,x1),(2,x2),(8,x8),(26,x26),(27,x27)],[],⟨B,H⟩⟩
@[simp] theorem u46_0 (s:St)(k:K):Run G c46_L0 s k=Run G c46_B0 { s with E:=AF [0,6,7,9,12,22,28,54] s.E } (.seq c46_L0 k):=Aw _ _ s k
abbrev S53_0 (x1 x3 x8 x24 x25 x26:V)(B:List (Nat×List V))(H:Hp):St:=⟨[(1,x1),(3,x3),(8,x8),(24,x24),(25,x25),(26,x26)],[],⟨B,H⟩⟩
@[simp] theorem u53_0 (s:St)(k:K):Run G c53_L0 s k=Run G c53_B0 { s with E:=AF [0,2,6,7,10,11,12,15,23,27,38] s.E } (.seq c53_L0 k):=Aw _ _ s k
abbrev S54_0 (x0 x4 x7 x8 x9 x16 x17 x18:V)(B:List (Nat×List V))(H:Hp):St:=⟨[(0,x0),(4,x4),(7,x7),(8,x8),(9,x9),(16,x16),(17,x17),(18,x18)],[],⟨B,H⟩⟩
@[simp] theorem u54_0 (s:St)(k:K):Run G c54_L0 s k=Run G c54_B0 { s with E:=AF [3,6,10,19,25] s.E } (.seq c54_L0 k):=Aw _ _ s k
abbrev S54_1 (x0 x7 x8 x9:V)(B:List (Nat×List V))(H:Hp):St:=⟨[(0,x0),(7,x7),(8,x8),(9,x9)],[],⟨B,H⟩⟩
@[simp] theorem u54_1 (s:St)(k:K):Run G c54_L1 s k=Run G c54_B1 { s with E:=AF [2,4,16,17,18,19] s.E } (.seq c54_L1 k):=Aw _ _ s k
abbrev S55_0 (x4 x7 x8 x9:V)(B:List (Nat×List V))(H:Hp):St:=⟨[(4,x4),(7,x7),(8,x8),(9,x9)],[],⟨B,H⟩⟩
@[simp] theorem u55_0 (s:St)(k:K):Run G c55_L0 s k=Run G c55_B0 { s with E:=AF [0,2,3,6,10] s.E } (.seq c55_L0 k):=Aw _ _ s k
abbrev S62_0 (x0 x8 x9 x10:V)(B:List (Nat×List V))(H:Hp):St:=⟨[(0,x0),(8,x8),(9,x9),(10,x10)],[],⟨B,H⟩⟩
@[simp] theorem u62_0 (s:St)(k:K):Run G c62_L0 s k=Run G c62_B0 { s with E:=AF [2,3,4,7,11,42] s.E } (.seq c62_L0 k):=Aw _ _ s k
abbrev S63_0 (x0 x3 x6 x7:V)(B:List (Nat×List V))(H:Hp):St:=⟨[(0,x0),(3,x3),(6,x6),(7,x7)],[],⟨B,H⟩⟩
@[simp] theorem u63_0 (s:St)(k:K):Run G c63_L0 s k=Run G c63_B0 { s with E:=AF [2,4,8] s.E } (.seq c63_L0 k):=Aw _ _ s k
abbrev S82_0 (x2 x6 x7 x8 x10 x18 x19 x20 x25 x26 x27:V)(B:List (Nat×List V))(H:Hp):St:=⟨[(2,x2),(6,x6),(7,x7),(8,x8),(10,x10),(18,x18),(19,x19),(20,x20),(25,x25),(26,x26),(27,x27)],[],⟨B,H⟩⟩
@[simp] theorem u82_0 (s:St)(k:K):Run G c82_L0 s k=Run G c82_B0 { s with E:=AF [12,13,14,21,28,44,52,55] s.E } (.seq c82_L0 k):=Aw _ _ s k
abbrev S82_1 (x2 x6 x7 x8 x18 x19 x20:V)(B:List (Nat×List V))(H:Hp):St:=⟨[(2,x2),(6,x6),(7,x7),(8,x8),(18,x18),(19,x19),(20,x20)],[],⟨B,H⟩⟩
@[simp] theorem u82_1 (s:St)(k:K):Run G c82_L1 s k=Run G c82_B1 { s with E:=AF [0,1,4,5,10,25,26,27,28] s.E } (.seq c82_L1 k):=Aw _ _ s k
abbrev S83_0 (x0 x1 x12 x13:V)(B:List (Nat×List V))(H:Hp):St:=⟨[(0,x0),(1,x1),(12,x12),(13,x13)],[],⟨B,H⟩⟩
@[simp] theorem u83_0 (s:St)(k:K):Run G c83_L0 s k=Run G c83_B0 { s with E:=AF [4,5,10,14,24] s.E } (.seq c83_L0 k):=Aw _ _ s k
abbrev S87_0 (x0 x6 x16 x17 x18:V)(B:List (Nat×List V))(H:Hp):St:=⟨[(0,x0),(6,x6),(16,x16),(17,x17),(18,x18)],[],⟨B,H⟩⟩
@[simp] theorem u87_0 (s:St)(k:K):Run G c87_L0 s k=Run G c87_B0 { s with E:=AF [1,4,5,8,9,12,19] s.E } (.seq c87_L0 k):=Aw _ _ s k
abbrev S88_0 (x3 x5 x24 x25 x26:V)(B:List (Nat×List V))(H:Hp):St:=⟨[(3,x3),(5,x5),(24,x24),(25,x25),(26,x26)],[],⟨B,H⟩⟩
@[simp] theorem u88_0 (s:St)(k:K):Run G c88_L0 s k=Run G c88_B0 { s with E:=AF [0,2,4,7,19,27] s.E } (.seq c88_L0 k):=Aw _ _ s k
abbrev S90_0 (x0 x1 x2:V)(B:List (Nat×List V))(H:Hp):St:=⟨[(0,x0),(1,x1),(2,x2)],[],⟨B,H⟩⟩
@[simp] theorem u90_0 (s:St)(k:K):Run G c90_L0 s k=Run G c90_B0 { s with E:=AF [6,14,22,26,42,53] s.E } (.seq c90_L0 k):=Aw _ _ s k
abbrev S103_0 (x0 x2 x4 x5 x26 x27 x28:V)(B:List (Nat×List V))(H:Hp):St:=⟨[(0,x0),(2,x2),(4,x4),(5,x5),(26,x26),(27,x27),(28,x28)],[],⟨B,H⟩⟩
@[simp] theorem u103_0 (s:St)(k:K):Run G c103_L0 s k=Run G c103_B0 { s with E:=AF [3,7,16,29] s.E } (.seq c103_L0 k):=Aw _ _ s k
abbrev S104_0 (x1 x4 x5 x47 x48 x49 x74 x75 x76:V)(B:List (Nat×List V))(H:Hp):St:=⟨[(1,x1),(4,x4),(5,x5),(47,x47),(48,x48),(49,x49),(74,x74),(75,x75),(76,x76)],[],⟨B,H⟩⟩
@[simp] theorem u104_0 (s:St)(k:K):Run G c104_L0 s k=Run G c104_B0 { s with E:=AF [7,50,72,77,114] s.E } (.seq c104_L0 k):=Aw _ _ s k
abbrev S104_1 (x1 x47 x48 x49:V)(B:List (Nat×List V))(H:Hp):St:=⟨[(1,x1),(47,x47),(48,x48),(49,x49)],[],⟨B,H⟩⟩
@[simp] theorem u104_1 (s:St)(k:K):Run G c104_L1 s k=Run G c104_B1 { s with E:=AF [0,2,3,4,5,45,74,75,76,77] s.E } (.seq c104_L1 k):=Aw _ _ s k
abbrev S105_0 (x2 x5 x12 x13 x14:V)(B:List (Nat×List V))(H:Hp):St:=⟨[(2,x2),(5,x5),(12,x12),(13,x13),(14,x14)],[],⟨B,H⟩⟩
@[simp] theorem u105_0 (s:St)(k:K):Run G c105_L0 s k=Run G c105_B0 { s with E:=AF [0,1,4,7,15] s.E } (.seq c105_L0 k):=Aw _ _ s k
abbrev S108_0 (x0 x1 x2 x3 x4 x10 x11:V)(B:List (Nat×List V))(H:Hp):St:=⟨[(0,x0),(1,x1),(2,x2),(3,x3),(4,x4),(10,x10),(11,x11)],[],⟨B,H⟩⟩
@[simp] theorem u108_0 (s:St)(k:K):Run G c108_L0 s k=Run G c108_B0 { s with E:=AF [12,13,14,15,16,17,18,19,20,25,32,39,56,75,80,97,125] s.E } (.seq c108_L0 k):=Aw _ _ s k
abbrev S117_0 (x3 x7 x8 x9:V)(B:List (Nat×List V))(H:Hp):St:=⟨[(3,x3),(7,x7),(8,x8),(9,x9)],[],⟨B,H⟩⟩
@[simp] theorem u117_0 (s:St)(k:K):Run G c117_L0 s k=Run G c117_B0 { s with E:=AF [0,2,5,10] s.E } (.seq c117_L0 k):=Aw _ _ s k
abbrev S118_0 (x0 x4 x5 x7 x15 x16 x17:V)(B:List (Nat×List V))(H:Hp):St:=⟨[(0,x0),(4,x4),(5,x5),(7,x7),(15,x15),(16,x16),(17,x17)],[],⟨B,H⟩⟩
@[simp] theorem u118_0 (s:St)(k:K):Run G c118_L0 s k=Run G c118_B0 { s with E:=AF [1,2,6,9,18] s.E } (.seq c118_L0 k):=Aw _ _ s k
abbrev S132_0 (x0 x4 x6 x18 x19 x20:V)(B:List (Nat×List V))(H:Hp):St:=⟨[(0,x0),(4,x4),(6,x6),(18,x18),(19,x19),(20,x20)],[],⟨B,H⟩⟩
@[simp] theorem u132_0 (s:St)(k:K):Run G c132_L0 s k=Run G c132_B0 { s with E:=AF [1,3,5,7,8,13,21] s.E } (.seq c132_L0 k):=Aw _ _ s k
abbrev S132_1 (x4 x6 x9 x10:V)(B:List (Nat×List V))(H:Hp):St:=⟨[(4,x4),(6,x6),(9,x9),(10,x10)],[],⟨B,H⟩⟩
@[simp] theorem u132_1 (s:St)(k:K):Run G c132_L1 s k=Run G c132_B1 { s with E:=AF [34,39,54] s.E } (.seq c132_L1 k):=Aw _ _ s k
abbrev S132_2 (x4 x6 x9:V)(B:List (Nat×List V))(H:Hp):St:=⟨[(4,x4),(6,x6),(9,x9)],[],⟨B,H⟩⟩
@[simp] theorem u132_2 (s:St)(k:K):Run G c132_L2 s k=Run G c132_B2 { s with E:=AF [0,10,18,19,20,21,39] s.E } (.seq c132_L2 k):=Aw _ _ s k
abbrev S135_0 (x0 x13 x14 x15:V)(B:List (Nat×List V))(H:Hp):St:=⟨[(0,x0),(13,x13),(14,x14),(15,x15)],[],⟨B,H⟩⟩
@[simp] theorem u135_0 (s:St)(k:K):Run G c135_L0 s k=Run G c135_B0 { s with E:=AF [2,3,4,12,16,51] s.E } (.seq c135_L0 k):=Aw _ _ s k
abbrev S136_0 (x1 x2 x3 x6 x11 x12:V)(B:List (Nat×List V))(H:Hp):St:=⟨[(1,x1),(2,x2),(3,x3),(6,x6),(11,x11),(12,x12)],[],⟨B,H⟩⟩
@[simp] theorem u136_0 (s:St)(k:K):Run G c136_L0 s k=Run G c136_B0 { s with E:=AF [0,7,8,10,13,14,15,16,17,25,30,40,50,61] s.E } (.seq c136_L0 k):=Aw _ _ s k
abbrev S138_0 (x0 x1 x2 x3 x8 x9:V)(B:List (Nat×List V))(H:Hp):St:=⟨[(0,x0),(1,x1),(2,x2),(3,x3),(8,x8),(9,x9)],[],⟨B,H⟩⟩
@[simp] theorem u138_0 (s:St)(k:K):Run G c138_L0 s k=Run G c138_B0 { s with E:=AF [14,34] s.E } (.seq c138_L0 k):=Aw _ _ s k
abbrev S138_1 (x0 x1 x2 x3 x8:V)(B:List (Nat×List V))(H:Hp):St:=⟨[(0,x0),(1,x1),(2,x2),(3,x3),(8,x8)],[],⟨B,H⟩⟩
@[simp] theorem u138_1 (s:St)(k:K):Run G c138_L1 s k=Run G c138_B1 { s with E:=AF [9,34] s.E } (.seq c138_L1 k):=Aw _ _ s k
abbrev S139_0 (x0 x3 x8 x9 x10 x11:V)(B:List (Nat×List V))(H:Hp):St:=⟨[(0,x0),(3,x3),(8,x8),(9,x9),(10,x10),(11,x11)],[],⟨B,H⟩⟩
@[simp] theorem u139_0 (s:St)(k:K):Run G c139_L0 s k=Run G c139_B0 { s with E:=AF [1,2,21] s.E } (.seq c139_L0 k):=Aw _ _ s k
abbrev S139_1 (x0 x3 x8 x9 x12:V)(B:List (Nat×List V))(H:Hp):St:=⟨[(0,x0),(3,x3),(8,x8),(9,x9),(12,x12)],[],⟨B,H⟩⟩
@[simp] theorem u139_1 (s:St)(k:K):Run G c139_L1 s k=Run G c139_B1 { s with E:=AF [10,11,21,33] s.E } (.seq c139_L1 k):=Aw _ _ s k
abbrev S140_0 (x0 x1 x8 x9 x10 x11:V)(B:List (Nat×List V))(H:Hp):St:=⟨[(0,x0),(1,x1),(8,x8),(9,x9),(10,x10),(11,x11)],[],⟨B,H⟩⟩
@[simp] theorem u140_0 (s:St)(k:K):Run G c140_L0 s k=Run G c140_B0 { s with E:=AF [2,3,12,17,35,45] s.E } (.seq c140_L0 k):=Aw _ _ s k
abbrev S142_0 (x0 x8 x9:V)(B:List (Nat×List V))(H:Hp):St:=⟨[(0,x0),(8,x8),(9,x9)],[],⟨B,H⟩⟩
@[simp] theorem u142_0 (s:St)(k:K):Run G c142_L0 s k=Run G c142_B0 { s with E:=AF [1,2,3,15] s.E } (.seq c142_L0 k):=Aw _ _ s k
abbrev S143_0 (x0 x1 x2 x3 x9 x10:V)(B:List (Nat×List V))(H:Hp):St:=⟨[(0,x0),(1,x1),(2,x2),(3,x3),(9,x9),(10,x10)],[],⟨B,H⟩⟩
@[simp] theorem u143_0 (s:St)(k:K):Run G c143_L0 s k=Run G c143_B0 { s with E:=AF [16,36] s.E } (.seq c143_L0 k):=Aw _ _ s k
abbrev S143_1 (x0 x1 x2 x3 x9 x10 x11:V)(B:List (Nat×List V))(H:Hp):St:=⟨[(0,x0),(1,x1),(2,x2),(3,x3),(9,x9),(10,x10),(11,x11)],[],⟨B,H⟩⟩
@[simp] theorem u143_1 (s:St)(k:K):Run G c143_L1 s k=Run G c143_B1 { s with E:=AF [36,41,45,65,69,84] s.E } (.seq c143_L1 k):=Aw _ _ s k
abbrev S143_2 (x0 x1 x2 x3 x9 x10 x12:V)(B:List (Nat×List V))(H:Hp):St:=⟨[(0,x0),(1,x1),(2,x2),(3,x3),(9,x9),(10,x10),(12,x12)],[],⟨B,H⟩⟩
@[simp] theorem u143_2 (s:St)(k:K):Run G c143_L2 s k=Run G c143_B2 { s with E:=AF [11,36,41,45,65,69,84,104,109,124] s.E } (.seq c143_L2 k):=Aw _ _ s k
abbrev S143_3 (x0 x1 x2 x3 x9 x10:V)(B:List (Nat×List V))(H:Hp):St:=⟨[(0,x0),(1,x1),(2,x2),(3,x3),(9,x9),(10,x10)],[],⟨B,H⟩⟩
@[simp] theorem u143_3 (s:St)(k:K):Run G c143_L3 s k=Run G c143_B3 { s with E:=AF [8,11,12,36,41,45,65,69,84,104,109,124] s.E } (.seq c143_L3 k):=Aw _ _ s k
abbrev S144_0 (x0 x1 x4 x11 x12:V)(B:List (Nat×List V))(H:Hp):St:=⟨[(0,x0),(1,x1),(4,x4),(11,x11),(12,x12)],[],⟨B,H⟩⟩
@[simp] theorem u144_0 (s:St)(k:K):Run G c144_L0 s k=Run G c144_B0 { s with E:=AF [2,3,10,47,65,70] s.E } (.seq c144_L0 k):=Aw _ _ s k
abbrev S144_1 (x0 x1 x4 x11 x12:V)(B:List (Nat×List V))(H:Hp):St:=⟨[(0,x0),(1,x1),(4,x4),(11,x11),(12,x12)],[],⟨B,H⟩⟩
@[simp] theorem u144_1 (s:St)(k:K):Run G c144_L1 s k=Run G c144_B1 { s with E:=AF [47,65] s.E } (.seq c144_L1 k):=Aw _ _ s k
abbrev S144_2 (x0 x1 x4 x11 x12:V)(B:List (Nat×List V))(H:Hp):St:=⟨[(0,x0),(1,x1),(4,x4),(11,x11),(12,x12)],[],⟨B,H⟩⟩
@[simp] theorem u144_2 (s:St)(k:K):Run G c144_L2 s k=Run G c144_B2 { s with E:=AF [2,3,10,47,65,70] s.E } (.seq c144_L2 k):=Aw _ _ s k
abbrev S145_0 (x0 x1 x4 x12 x13:V)(B:List (Nat×List V))(H:Hp):St:=⟨[(0,x0),(1,x1),(4,x4),(12,x12),(13,x13)],[],⟨B,H⟩⟩
@[simp] theorem u145_0 (s:St)(k:K):Run G c145_L0 s k=Run G c145_B0 { s with E:=AF [2,3,10,11,47] s.E } (.seq c145_L0 k):=Aw _ _ s k
abbrev S145_1 (x0 x1 x4 x12 x13:V)(B:List (Nat×List V))(H:Hp):St:=⟨[(0,x0),(1,x1),(4,x4),(12,x12),(13,x13)],[],⟨B,H⟩⟩
@[simp] theorem u145_1 (s:St)(k:K):Run G c145_L1 s k=Run G c145_B1 { s with E:=AF [47,66] s.E } (.seq c145_L1 k):=Aw _ _ s k
abbrev S145_2 (x0 x1 x4 x12 x13:V)(B:List (Nat×List V))(H:Hp):St:=⟨[(0,x0),(1,x1),(4,x4),(12,x12),(13,x13)],[],⟨B,H⟩⟩
@[simp] theorem u145_2 (s:St)(k:K):Run G c145_L2 s k=Run G c145_B2 { s with E:=AF [66,71,120,139,144] s.E } (.seq c145_L2 k):=Aw _ _ s k
abbrev S145_3 (x0 x1 x4 x12 x13:V)(B:List (Nat×List V))(H:Hp):St:=⟨[(0,x0),(1,x1),(4,x4),(12,x12),(13,x13)],[],⟨B,H⟩⟩
@[simp] theorem u145_3 (s:St)(k:K):Run G c145_L3 s k=Run G c145_B3 { s with E:=AF [120,139] s.E } (.seq c145_L3 k):=Aw _ _ s k
abbrev S145_4 (x0 x1 x4 x12 x13:V)(B:List (Nat×List V))(H:Hp):St:=⟨[(0,x0),(1,x1),(4,x4),(12,x12),(13,x13)],[],⟨B,H⟩⟩
@[simp] theorem u145_4 (s:St)(k:K):Run G c145_L4 s k=Run G c145_B4 { s with E:=AF [66,71,120,139,144] s.E } (.seq c145_L4 k):=Aw _ _ s k
@[simp] theorem u148_0 (s:St)(k:K):Run G c148_L0 s k=Run G c148_B0 { s with E:=AF [0,2,5,9,14] s.E } (.seq c148_L0 k):=Aw _ _ s k
abbrev S165_0 (x2 x4 x5 x6 x7 x8 x9 x10 x11 x13 x28 x29 x30 x44 x45 x46 x64 x65 x66:V)(B:List (Nat×List V))(H:Hp):St:=⟨[(2,x2),(4,x4),(5,x5),(6,x6),(7,x7),(8,x8),(9,x9),(10,x10),(11,x11),(13,x13),(28,x28),(29,x29),(30,x30),(44,x44),(45,x45),(46,x46),(64,x64),(65,x65),(66,x66)],[],⟨B,H⟩⟩
@[simp] theorem u165_0 (s:St)(k:K):Run G c165_L0 s k=Run G c165_B0 { s with E:=AF [12,14,15,47,55,67,84] s.E } (.seq c165_L0 k):=Aw _ _ s k
abbrev S165_1 (x2 x4 x5 x6 x7 x8 x9 x10 x28 x29 x30 x44 x45 x46:V)(B:List (Nat×List V))(H:Hp):St:=⟨[(2,x2),(4,x4),(5,x5),(6,x6),(7,x7),(8,x8),(9,x9),(10,x10),(28,x28),(29,x29),(30,x30),(44,x44),(45,x45),(46,x46)],[],⟨B,H⟩⟩
@[simp] theorem u165_1 (s:St)(k:K):Run G c165_L1 s k=Run G c165_B1 { s with E:=AF [11,12,13,31,39,47,55,64,65,66,67,103] s.E } (.seq c165_L1 k):=Aw _ _ s k
abbrev S165_2 (x2 x4 x5 x6 x7 x28 x29 x30:V)(B:List (Nat×List V))(H:Hp):St:=⟨[(2,x2),(4,x4),(5,x5),(6,x6),(7,x7),(28,x28),(29,x29),(30,x30)],[],⟨B,H⟩⟩
@[simp] theorem u165_2 (s:St)(k:K):Run G c165_L2 s k=Run G c165_B2 { s with E:=AF [0,1,8,9,10,31,39,44,45,46,47] s.E } (.seq c165_L2 k):=Aw _ _ s k
abbrev S170_0 (x0 x1 x4 x5 x37 x38:V)(B:List (Nat×List V))(H:Hp):St:=⟨[(0,x0),(1,x1),(4,x4),(5,x5),(37,x37),(38,x38)],[],⟨B,H⟩⟩
@[simp] theorem u170_0 (s:St)(k:K):Run G c170_L0 s k=Run G c170_B0 { s with E:=AF [6,7,17,39,65] s.E } (.seq c170_L0 k):=Aw _ _ s k
abbrev S172_0 (x0 x2 x3 x4 x10:V)(B:List (Nat×List V))(H:Hp):St:=⟨[(0,x0),(2,x2),(3,x3),(4,x4),(10,x10)],[],⟨B,H⟩⟩
@[simp] theorem u172_0 (s:St)(k:K):Run G c172_L0 s k=Run G c172_B0 { s with E:=AF [1,11,18,40,58] s.E } (.seq c172_L0 k):=Aw _ _ s k
abbrev S182_0 (x0 x3 x4 x5 x6 x7:V)(B:List (Nat×List V))(H:Hp):St:=⟨[(0,x0),(3,x3),(4,x4),(5,x5),(6,x6),(7,x7)],[],⟨B,H⟩⟩
@[simp] theorem u182_0 (s:St)(k:K):Run G c182_L0 s k=Run G c182_B0 { s with E:=AF [8,14,24,40] s.E } (.seq c182_L0 k):=Aw _ _ s k
abbrev S182_1 (x0 x3 x4 x5 x6 x9 x10:V)(B:List (Nat×List V))(H:Hp):St:=⟨[(0,x0),(3,x3),(4,x4),(5,x5),(6,x6),(9,x9),(10,x10)],[],⟨B,H⟩⟩
@[simp] theorem u182_1 (s:St)(k:K):Run G c182_L1 s k=Run G c182_B1 { s with E:=AF [7,24,53,74] s.E } (.seq c182_L1 k):=Aw _ _ s k
abbrev S182_2 (x0 x3 x4 x5:V)(B:List (Nat×List V))(H:Hp):St:=⟨[(0,x0),(3,x3),(4,x4),(5,x5)],[],⟨B,H⟩⟩
@[simp] theorem u182_2 (s:St)(k:K):Run G c182_L2 s k=Run G c182_B2 { s with E:=AF [2,6,9,10,53] s.E } (.seq c182_L2 k):=Aw _ _ s k
abbrev S190_0 (x1 x3 x7:V)(B:List (Nat×List V))(H:Hp):St:=⟨[(1,x1),(3,x3),(7,x7)],[],⟨B,H⟩⟩
@[simp] theorem u190_0 (s:St)(k:K):Run G c190_L0 s k=Run G c190_B0 { s with E:=AF [0,2,4,5,6,8,22] s.E } (.seq c190_L0 k):=Aw _ _ s k
abbrev S200_0 (x1 x2 x4 x5 x6 x8 x9 x15 x16 x17 x24 x25 x26:V)(B:List (Nat×List V))(H:Hp):St:=⟨[(1,x1),(2,x2),(4,x4),(5,x5),(6,x6),(8,x8),(9,x9),(15,x15),(16,x16),(17,x17),(24,x24),(25,x25),(26,x26)],[],⟨B,H⟩⟩
@[simp] theorem u200_0 (s:St)(k:K):Run G c200_L0 s k=Run G c200_B0 { s with E:=AF [10,11,18,27,33] s.E } (.seq c200_L0 k):=Aw _ _ s k
abbrev S200_1 (x1 x2 x4 x5 x6 x15 x16 x17:V)(B:List (Nat×List V))(H:Hp):St:=⟨[(1,x1),(2,x2),(4,x4),(5,x5),(6,x6),(15,x15),(16,x16),(17,x17)],[],⟨B,H⟩⟩
@[simp] theorem u200_1 (s:St)(k:K):Run G c200_L1 s k=Run G c200_B1 { s with E:=AF [0,8,9,24,25,26,27] s.E } (.seq c200_L1 k):=Aw _ _ s k
abbrev S202_0 (x0 x1 x2 x7 x14 x15 x16:V)(B:List (Nat×List V))(H:Hp):St:=⟨[(0,x0),(1,x1),(2,x2),(7,x7),(14,x14),(15,x15),(16,x16)],[],⟨B,H⟩⟩
@[simp] theorem u202_0 (s:St)(k:K):Run G c202_L0 s k=Run G c202_B0 { s with E:=AF [6,9,17] s.E } (.seq c202_L0 k):=Aw _ _ s k
abbrev S210_0 (x0 x1 x5:V)(B:List (Nat×List V))(H:Hp):St:=⟨[(0,x0),(1,x1),(5,x5)],[],⟨B,H⟩⟩
@[simp] theorem u210_0 (s:St)(k:K):Run G c210_L0 s k=Run G c210_B0 { s with E:=AF [4,10,14,25] s.E } (.seq c210_L0 k):=Aw _ _ s k
abbrev S230_0 (x0 x1 x3 x4 x7 x33 x34 x35:V)(B:List (Nat×List V))(H:Hp):St:=⟨[(0,x0),(1,x1),(3,x3),(4,x4),(7,x7),(33,x33),(34,x34),(35,x35)],[],⟨B,H⟩⟩
@[simp] theorem u230_0 (s:St)(k:K):Run G c230_L0 s k=Run G c230_B0 { s with E:=AF [2,6,8,9,14,20,21,22,24,25,26,27,29,30,31,36,42] s.E } (.seq c230_L0 k):=Aw _ _ s k
abbrev S265_0 (x0 x1 x4:V)(B:List (Nat×List V))(H:Hp):St:=⟨[(0,x0),(1,x1),(4,x4)],[],⟨B,H⟩⟩
@[simp] theorem u265_0 (s:St)(k:K):Run G c265_L0 s k=Run G c265_B0 { s with E:=AF [5,6,7,8,9,10,11,20] s.E } (.seq c265_L0 k):=Aw _ _ s k
end Go.Mx.Tryz
