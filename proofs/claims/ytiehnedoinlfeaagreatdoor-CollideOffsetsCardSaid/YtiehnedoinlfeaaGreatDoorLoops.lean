/- The loops of this seat, one round at a time. -/
import Derived.Test.YtiehnedoinlfeaaGreatDoorSeat
namespace Go.Mx.Tryz
variable (s:St) (k:K)
abbrev S4_0 (a b c d:V)(B:LE)(H:Hp):St:=⟨[(2,a),(3,b),(9,c),(10,d)],[],⟨B,H⟩⟩
@[simp] theorem u4_0:Run G c4_L0 s k=Run G c4_B0 { s with E:=Aw [0,1,4,5,11,40] s.E } (.seq c4_L0 k):=Aq _ _ s k
abbrev S4_1 (a b c d:V)(B:LE)(H:Hp):St:=⟨[(2,a),(3,b),(44,c),(45,d)],[],⟨B,H⟩⟩
@[simp] theorem u4_1:Run G c4_L1 s k=Run G c4_B1 { s with E:=Aw [6,9,10,11,46,63] s.E } (.seq c4_L1 k):=Aq _ _ s k
abbrev S6_0 (a b c d e f g h i:V)(B:LE)(H:Hp):St:=⟨[(1,a),(4,b),(5,c),(6,d),(8,e),(9,f),(16,g),(17,h),(18,i)],[],⟨B,H⟩⟩
@[simp] theorem u6_0:Run G c6_L0 s k=Run G c6_B0 { s with E:=Aw [19,20,21,52,59,84,87] s.E } (.seq c6_L0 k):=Aq _ _ s k
abbrev S6_1 (a b c d e f g h:V)(B:LE)(H:Hp):St:=⟨[(1,a),(4,b),(5,c),(6,d),(8,e),(9,f),(16,g),(17,h)],[],⟨B,H⟩⟩
@[simp] theorem u6_1:Run G c6_L1 s k=Run G c6_B1 { s with E:=Aw [0,2,3,12,13,15,18,32,47,59] s.E } (.seq c6_L1 k):=Aq _ _ s k
abbrev S7_0 (a b c d e f g h i:V)(B:LE)(H:Hp):St:=⟨[(1,a),(4,b),(5,c),(6,d),(8,e),(9,f),(16,g),(17,h),(18,i)],[],⟨B,H⟩⟩
@[simp] theorem u7_0:Run G c7_L0 s k=Run G c7_B0 { s with E:=Aw [19,20,21,52,59,84,87] s.E } (.seq c7_L0 k):=Aq _ _ s k
abbrev S7_1 (a b c d e f g h:V)(B:LE)(H:Hp):St:=⟨[(1,a),(4,b),(5,c),(6,d),(8,e),(9,f),(16,g),(17,h)],[],⟨B,H⟩⟩
@[simp] theorem u7_1:Run G c7_L1 s k=Run G c7_B1 { s with E:=Aw [0,2,3,12,13,15,18,32,47,59] s.E } (.seq c7_L1 k):=Aq _ _ s k
abbrev S8_0 (a b c:V)(B:LE)(H:Hp):St:=⟨[(0,a),(1,b),(5,c)],[],⟨B,H⟩⟩
@[simp] theorem u8_0:Run G c8_L0 s k=Run G c8_B0 { s with E:=Aw [4,10,14,25] s.E } (.seq c8_L0 k):=Aq _ _ s k
abbrev S9_0 (a b c:V)(B:LE)(H:Hp):St:=⟨[(1,a),(16,b),(17,c)],[],⟨B,H⟩⟩
@[simp] theorem u9_0:Run G c9_L0 s k=Run G c9_B0 { s with E:=Aw [0,2,3,13,18,27] s.E } (.seq c9_L0 k):=Aq _ _ s k
abbrev S11_0 (a b c d e f g h:V)(B:LE)(H:Hp):St:=⟨[(3,a),(4,b),(10,c),(12,d),(13,e),(14,f),(51,g),(52,h)],[],⟨B,H⟩⟩
@[simp] theorem u11_0:Run G c11_L0 s k=Run G c11_B0 { s with E:=Aw [11,15,47,53,68] s.E } (.seq c11_L0 k):=Aq _ _ s k
abbrev S11_1 (a b c d e f:V)(B:LE)(H:Hp):St:=⟨[(3,a),(4,b),(10,c),(12,d),(13,e),(14,f)],[],⟨B,H⟩⟩
@[simp] theorem u11_1:Run G c11_L1 s k=Run G c11_B1 { s with E:=Aw [0,1,2,8,9,11,16,17,26,33,36,43,51,52,53,78,82,96] s.E } (.seq c11_L1 k):=Aq _ _ s k
abbrev S15_0 (a b c d e f:V)(B:LE)(H:Hp):St:=⟨[(1,a),(3,b),(8,c),(24,d),(25,e),(26,f)],[],⟨B,H⟩⟩
@[simp] theorem u15_0:Run G c15_L0 s k=Run G c15_B0 { s with E:=Aw [0,2,6,7,10,11,12,15,23,27,38] s.E } (.seq c15_L0 k):=Aq _ _ s k
abbrev S16_0 (a b c d e:V)(B:LE)(H:Hp):St:=⟨[(1,a),(2,b),(3,c),(8,d),(9,e)],[],⟨B,H⟩⟩
@[simp] theorem u16_0:Run G c16_L0 s k=Run G c16_B0 { s with E:=Aw [0,6,7,10,11,14,22,26,40] s.E } (.seq c16_L0 k):=Aq _ _ s k
abbrev S17_0 (a b c d e f g:V)(B:LE)(H:Hp):St:=⟨[(3,a),(4,b),(10,c),(12,d),(14,e),(15,f),(16,g)],[],⟨B,H⟩⟩
@[simp] theorem u17_0:Run G c17_L0 s k=Run G c17_B0 { s with E:=Aw [17,18,51,57,70] s.E } (.seq c17_L0 k):=Aq _ _ s k
abbrev S17_1 (a b c d e:V)(B:LE)(H:Hp):St:=⟨[(3,a),(4,b),(10,c),(12,d),(14,e)],[],⟨B,H⟩⟩
@[simp] theorem u17_1:Run G c17_L1 s k=Run G c17_B1 { s with E:=Aw [0,1,2,8,9,11,13,15,16,19,20,21,22,31,38,45,48,57,83,97] s.E } (.seq c17_L1 k):=Aq _ _ s k
abbrev S20_0 (a b c d e f g h:V)(B:LE)(H:Hp):St:=⟨[(0,a),(4,b),(7,c),(8,d),(9,e),(16,f),(17,g),(18,h)],[],⟨B,H⟩⟩
@[simp] theorem u20_0:Run G c20_L0 s k=Run G c20_B0 { s with E:=Aw [3,6,10,19,25] s.E } (.seq c20_L0 k):=Aq _ _ s k
abbrev S20_1 (a b c d:V)(B:LE)(H:Hp):St:=⟨[(0,a),(7,b),(8,c),(9,d)],[],⟨B,H⟩⟩
@[simp] theorem u20_1:Run G c20_L1 s k=Run G c20_B1 { s with E:=Aw [2,4,16,17,18,19] s.E } (.seq c20_L1 k):=Aq _ _ s k
abbrev S21_0 (a b c d:V)(B:LE)(H:Hp):St:=⟨[(4,a),(7,b),(8,c),(9,d)],[],⟨B,H⟩⟩
@[simp] theorem u21_0:Run G c21_L0 s k=Run G c21_B0 { s with E:=Aw [0,2,3,6,10] s.E } (.seq c21_L0 k):=Aq _ _ s k
abbrev S25_0 (a b c d:V)(B:LE)(H:Hp):St:=⟨[(1,a),(3,b),(23,c),(24,d)],[],⟨B,H⟩⟩
@[simp] theorem u25_0:Run G c25_L0 s k=Run G c25_B0 { s with E:=Aw [0,2,6,7,8,9,10,15,22,25,33] s.E } (.seq c25_L0 k):=Aq _ _ s k
abbrev S31_0 (a b c d e:V)(B:LE)(H:Hp):St:=⟨[(0,a),(5,b),(6,c),(7,d),(8,e)],[],⟨B,H⟩⟩
@[simp] theorem u31_0:Run G c31_L0 s k=Run G c31_B0 { s with E:=Aw [4,9,13,28,39,59,91] s.E } (.seq c31_L0 k):=Aq _ _ s k
abbrev S31_1 (a b c:V)(B:LE)(H:Hp):St:=⟨[(0,a),(4,b),(5,c)],[],⟨B,H⟩⟩
@[simp] theorem u31_1:Run G c31_L1 s k=Run G c31_B1 { s with E:=Aw [2,3,6,7,8,28] s.E } (.seq c31_L1 k):=Aq _ _ s k
abbrev S32_0 (a b c d e f:V)(B:LE)(H:Hp):St:=⟨[(2,a),(7,b),(8,c),(9,d),(10,e),(11,f)],[],⟨B,H⟩⟩
@[simp] theorem u32_0:Run G c32_L0 s k=Run G c32_B0 { s with E:=Aw [0,1,4,5,6,12,13,18,27,42] s.E } (.seq c32_L0 k):=Aq _ _ s k
abbrev S39_0 (a b c d:V)(B:LE)(H:Hp):St:=⟨[(4,a),(8,b),(9,c),(10,d)],[],⟨B,H⟩⟩
@[simp] theorem u39_0:Run G c39_L0 s k=Run G c39_B0 { s with E:=Aw [0,2,3,6,11,14,19,28] s.E } (.seq c39_L0 k):=Aq _ _ s k
abbrev S39_1 (a b:V)(B:LE)(H:Hp):St:=⟨[(4,a),(7,b)],[],⟨B,H⟩⟩
@[simp] theorem u39_1:Run G c39_L1 s k=Run G c39_B1 { s with E:=Aw [8,9,10,11,42,56] s.E } (.seq c39_L1 k):=Aq _ _ s k
abbrev S41_0 (a b c d e f g h i j k:V)(B:LE)(H:Hp):St:=⟨[(2,a),(6,b),(7,c),(8,d),(10,e),(18,f),(19,g),(20,h),(25,i),(26,j),(27,k)],[],⟨B,H⟩⟩
@[simp] theorem u41_0:Run G c41_L0 s k=Run G c41_B0 { s with E:=Aw [12,13,14,21,28,44,52,55] s.E } (.seq c41_L0 k):=Aq _ _ s k
abbrev S41_1 (a b c d e f g:V)(B:LE)(H:Hp):St:=⟨[(2,a),(6,b),(7,c),(8,d),(18,e),(19,f),(20,g)],[],⟨B,H⟩⟩
@[simp] theorem u41_1:Run G c41_L1 s k=Run G c41_B1 { s with E:=Aw [0,1,4,5,10,25,26,27,28] s.E } (.seq c41_L1 k):=Aq _ _ s k
abbrev S42_0 (a b c d:V)(B:LE)(H:Hp):St:=⟨[(0,a),(1,b),(12,c),(13,d)],[],⟨B,H⟩⟩
@[simp] theorem u42_0:Run G c42_L0 s k=Run G c42_B0 { s with E:=Aw [4,5,10,14,24] s.E } (.seq c42_L0 k):=Aq _ _ s k
abbrev S46_0 (a b c d e f g h i:V)(B:LE)(H:Hp):St:=⟨[(1,a),(4,b),(5,c),(47,d),(48,e),(49,f),(74,g),(75,h),(76,i)],[],⟨B,H⟩⟩
@[simp] theorem u46_0:Run G c46_L0 s k=Run G c46_B0 { s with E:=Aw [7,50,72,77,114] s.E } (.seq c46_L0 k):=Aq _ _ s k
abbrev S46_1 (a b c d:V)(B:LE)(H:Hp):St:=⟨[(1,a),(47,b),(48,c),(49,d)],[],⟨B,H⟩⟩
@[simp] theorem u46_1:Run G c46_L1 s k=Run G c46_B1 { s with E:=Aw [0,2,3,4,5,45,74,75,76,77] s.E } (.seq c46_L1 k):=Aq _ _ s k
abbrev S47_0 (a b c d e:V)(B:LE)(H:Hp):St:=⟨[(2,a),(5,b),(12,c),(13,d),(14,e)],[],⟨B,H⟩⟩
@[simp] theorem u47_0:Run G c47_L0 s k=Run G c47_B0 { s with E:=Aw [0,1,4,7,15] s.E } (.seq c47_L0 k):=Aq _ _ s k
abbrev S49_0 (a b c d e:V)(B:LE)(H:Hp):St:=⟨[(0,a),(6,b),(16,c),(17,d),(18,e)],[],⟨B,H⟩⟩
@[simp] theorem u49_0:Run G c49_L0 s k=Run G c49_B0 { s with E:=Aw [1,4,5,8,9,12,19] s.E } (.seq c49_L0 k):=Aq _ _ s k
abbrev S50_0 (a b c d e:V)(B:LE)(H:Hp):St:=⟨[(1,a),(2,b),(8,c),(26,d),(27,e)],[],⟨B,H⟩⟩
@[simp] theorem u50_0:Run G c50_L0 s k=Run G c50_B0 { s with E:=Aw [0,6,7,9,12,22,28,54] s.E } (.seq c50_L0 k):=Aq _ _ s k
abbrev S51_0 (a b c d e:V)(B:LE)(H:Hp):St:=⟨[(3,a),(5,b),(24,c),(25,d),(26,e)],[],⟨B,H⟩⟩
@[simp] theorem u51_0:Run G c51_L0 s k=Run G c51_B0 { s with E:=Aw [0,2,4,7,19,27] s.E } (.seq c51_L0 k):=Aq _ _ s k
abbrev S52_0 (a b c d e:V)(B:LE)(H:Hp):St:=⟨[(1,a),(3,b),(4,c),(5,d),(6,e)],[],⟨B,H⟩⟩
@[simp] theorem u52_0:Run G c52_L0 s k=Run G c52_B0 { s with E:=Aw [7,35,61,65,74,83,103] s.E } (.seq c52_L0 k):=Aq _ _ s k
abbrev S52_1 (a b c:V)(B:LE)(H:Hp):St:=⟨[(1,a),(3,b),(4,c)],[],⟨B,H⟩⟩
@[simp] theorem u52_1:Run G c52_L1 s k=Run G c52_B1 { s with E:=Aw [0,2,5,6,32,65] s.E } (.seq c52_L1 k):=Aq _ _ s k
abbrev S53_0 (a b c:V)(B:LE)(H:Hp):St:=⟨[(1,a),(2,b),(6,c)],[],⟨B,H⟩⟩
@[simp] theorem u53_0:Run G c53_L0 s k=Run G c53_B0 { s with E:=Aw [0,4,5,9,15,19,35] s.E } (.seq c53_L0 k):=Aq _ _ s k
abbrev S56_0 (a b c d e:V)(B:LE)(H:Hp):St:=⟨[(0,a),(1,b),(2,c),(8,d),(9,e)],[],⟨B,H⟩⟩
@[simp] theorem u56_0:Run G c56_L0 s k=Run G c56_B0 { s with E:=Aw [6,7,12,26,30,48] s.E } (.seq c56_L0 k):=Aq _ _ s k
abbrev S58_0 (a b c:V)(B:LE)(H:Hp):St:=⟨[(1,a),(2,b),(5,c)],[],⟨B,H⟩⟩
@[simp] theorem u58_0:Run G c58_L0 s k=Run G c58_B0 { s with E:=Aw [0,4,8,11,15,25] s.E } (.seq c58_L0 k):=Aq _ _ s k
abbrev S59_0 (a b c d e:V)(B:LE)(H:Hp):St:=⟨[(0,a),(2,b),(3,c),(5,d),(6,e)],[],⟨B,H⟩⟩
@[simp] theorem u59_0:Run G c59_L0 s k=Run G c59_B0 { s with E:=Aw [23,35] s.E } (.seq c59_L0 k):=Aq _ _ s k
abbrev S60_0 (a b c d:V)(B:LE)(H:Hp):St:=⟨[(1,a),(3,b),(4,c),(5,d)],[],⟨B,H⟩⟩
@[simp] theorem u60_0:Run G c60_L0 s k=Run G c60_B0 { s with E:=Aw [25,41] s.E } (.seq c60_L0 k):=Aq _ _ s k
abbrev S60_1 (a b c:V)(B:LE)(H:Hp):St:=⟨[(1,a),(3,b),(4,c)],[],⟨B,H⟩⟩
@[simp] theorem u60_1:Run G c60_L1 s k=Run G c60_B1 { s with E:=Aw [0,2,5,11,41] s.E } (.seq c60_L1 k):=Aq _ _ s k
abbrev S60_2 (a b c d e:V)(B:LE)(H:Hp):St:=⟨[(1,a),(3,b),(6,c),(7,d),(8,e)],[],⟨B,H⟩⟩
@[simp] theorem u60_2:Run G c60_L2 s k=Run G c60_B2 { s with E:=Aw [9,59,63,87] s.E } (.seq c60_L2 k):=Aq _ _ s k
abbrev S60_3 (a b c d:V)(B:LE)(H:Hp):St:=⟨[(1,a),(3,b),(6,c),(7,d)],[],⟨B,H⟩⟩
@[simp] theorem u60_3:Run G c60_L3 s k=Run G c60_B3 { s with E:=Aw [8,55,63] s.E } (.seq c60_L3 k):=Aq _ _ s k
abbrev S60_4 (a b c:V)(B:LE)(H:Hp):St:=⟨[(1,a),(3,b),(6,c)],[],⟨B,H⟩⟩
@[simp] theorem u60_4:Run G c60_L4 s k=Run G c60_B4 { s with E:=Aw [0,2,7,11,59] s.E } (.seq c60_L4 k):=Aq _ _ s k
abbrev S61_0 (a b c d e f:V)(B:LE)(H:Hp):St:=⟨[(2,a),(3,b),(4,c),(5,d),(9,e),(10,f)],[],⟨B,H⟩⟩
@[simp] theorem u61_0:Run G c61_L0 s k=Run G c61_B0 { s with E:=Aw [0,1,8,15] s.E } (.seq c61_L0 k):=Aq _ _ s k
abbrev S63_0 (a b c:V)(B:LE)(H:Hp):St:=⟨[(0,a),(4,b),(5,c)],[],⟨B,H⟩⟩
@[simp] theorem u63_0:Run G c63_L0 s k=Run G c63_B0 { s with E:=Aw [2,3,11,25,39] s.E } (.seq c63_L0 k):=Aq _ _ s k
abbrev S63_1 (a b c:V)(B:LE)(H:Hp):St:=⟨[(0,a),(4,b),(6,c)],[],⟨B,H⟩⟩
@[simp] theorem u63_1:Run G c63_L1 s k=Run G c63_B1 { s with E:=Aw [5,11,43,51] s.E } (.seq c63_L1 k):=Aq _ _ s k
abbrev S63_2 (a b:V)(B:LE)(H:Hp):St:=⟨[(4,a),(7,b)],[],⟨B,H⟩⟩
@[simp] theorem u63_2:Run G c63_L2 s k=Run G c63_B2 { s with E:=Aw [0,6,43,61,74] s.E } (.seq c63_L2 k):=Aq _ _ s k
abbrev S64_0 (a b c:V)(B:LE)(H:Hp):St:=⟨[(0,a),(1,b),(5,c)],[],⟨B,H⟩⟩
@[simp] theorem u64_0:Run G c64_L0 s k=Run G c64_B0 { s with E:=Aw [4,15,28,50,72] s.E } (.seq c64_L0 k):=Aq _ _ s k
abbrev S69_0 (a b c d:V)(B:LE)(H:Hp):St:=⟨[(0,a),(8,b),(9,c),(10,d)],[],⟨B,H⟩⟩
@[simp] theorem u69_0:Run G c69_L0 s k=Run G c69_B0 { s with E:=Aw [2,3,4,7,11,42] s.E } (.seq c69_L0 k):=Aq _ _ s k
abbrev S75_0 (a b c d:V)(B:LE)(H:Hp):St:=⟨[(0,a),(3,b),(6,c),(7,d)],[],⟨B,H⟩⟩
@[simp] theorem u75_0:Run G c75_L0 s k=Run G c75_B0 { s with E:=Aw [2,4,8] s.E } (.seq c75_L0 k):=Aq _ _ s k
abbrev S76_0 (a b c d:V)(B:LE)(H:Hp):St:=⟨[(3,a),(7,b),(8,c),(9,d)],[],⟨B,H⟩⟩
@[simp] theorem u76_0:Run G c76_L0 s k=Run G c76_B0 { s with E:=Aw [0,2,5,10] s.E } (.seq c76_L0 k):=Aq _ _ s k
abbrev S77_0 (a b c d e f g:V)(B:LE)(H:Hp):St:=⟨[(0,a),(4,b),(5,c),(7,d),(15,e),(16,f),(17,g)],[],⟨B,H⟩⟩
@[simp] theorem u77_0:Run G c77_L0 s k=Run G c77_B0 { s with E:=Aw [1,2,6,9,18] s.E } (.seq c77_L0 k):=Aq _ _ s k
abbrev S79_0 (a b c d e f:V)(B:LE)(H:Hp):St:=⟨[(1,a),(2,b),(3,c),(6,d),(11,e),(12,f)],[],⟨B,H⟩⟩
@[simp] theorem u79_0:Run G c79_L0 s k=Run G c79_B0 { s with E:=Aw [0,7,8,10,13,14,15,16,17,25,30,40,50,61] s.E } (.seq c79_L0 k):=Aq _ _ s k
abbrev S85_0 (a b c d:V)(B:LE)(H:Hp):St:=⟨[(0,a),(13,b),(14,c),(15,d)],[],⟨B,H⟩⟩
@[simp] theorem u85_0:Run G c85_L0 s k=Run G c85_B0 { s with E:=Aw [2,3,4,12,16,51] s.E } (.seq c85_L0 k):=Aq _ _ s k
abbrev S90_0 (a b c d e f g:V)(B:LE)(H:Hp):St:=⟨[(0,a),(2,b),(4,c),(5,d),(26,e),(27,f),(28,g)],[],⟨B,H⟩⟩
@[simp] theorem u90_0:Run G c90_L0 s k=Run G c90_B0 { s with E:=Aw [3,7,16,29] s.E } (.seq c90_L0 k):=Aq _ _ s k
abbrev S91_0 (a b:V)(B:LE)(H:Hp):St:=⟨[(0,a),(3,b)],[],⟨B,H⟩⟩
@[simp] theorem u91_0:Run G c91_L0 s k=Run G c91_B0 { s with E:=Aw [2,4,12,16,54] s.E } (.seq c91_L0 k):=Aq _ _ s k
abbrev S92_0 (a b c d:V)(B:LE)(H:Hp):St:=⟨[(1,a),(2,b),(5,c),(6,d)],[],⟨B,H⟩⟩
@[simp] theorem u92_0:Run G c92_L0 s k=Run G c92_B0 { s with E:=Aw [0,4,14] s.E } (.seq c92_L0 k):=Aq _ _ s k
abbrev S94_0 (a b:V)(B:LE)(H:Hp):St:=⟨[(0,a),(3,b)],[],⟨B,H⟩⟩
@[simp] theorem u94_0:Run G c94_L0 s k=Run G c94_B0 { s with E:=Aw [2,7,54] s.E } (.seq c94_L0 k):=Aq _ _ s k
abbrev S97_0 (a b c d:V)(B:LE)(H:Hp):St:=⟨[(0,a),(1,b),(6,c),(7,d)],[],⟨B,H⟩⟩
@[simp] theorem u97_0:Run G c97_L0 s k=Run G c97_B0 { s with E:=Aw [4,5,8,11,15] s.E } (.seq c97_L0 k):=Aq _ _ s k
abbrev S98_0 (a b c d:V)(B:LE)(H:Hp):St:=⟨[(0,a),(3,b),(4,c),(5,d)],[],⟨B,H⟩⟩
@[simp] theorem u98_0:Run G c98_L0 s k=Run G c98_B0 { s with E:=Aw [2,15,28] s.E } (.seq c98_L0 k):=Aq _ _ s k
abbrev S98_1 (a b c d e:V)(B:LE)(H:Hp):St:=⟨[(0,a),(3,b),(4,c),(6,d),(7,e)],[],⟨B,H⟩⟩
@[simp] theorem u98_1:Run G c98_L1 s k=Run G c98_B1 { s with E:=Aw [5,28,48] s.E } (.seq c98_L1 k):=Aq _ _ s k
abbrev S99_0 (a b c d e f g:V)(B:LE)(H:Hp):St:=⟨[(0,a),(2,b),(4,c),(5,d),(6,e),(7,f),(8,g)],[],⟨B,H⟩⟩
@[simp] theorem u99_0:Run G c99_L0 s k=Run G c99_B0 { s with E:=Aw [3,16,37] s.E } (.seq c99_L0 k):=Aq _ _ s k
abbrev S100_0 (a b c d:V)(B:LE)(H:Hp):St:=⟨[(1,a),(3,b),(5,c),(7,d)],[],⟨B,H⟩⟩
@[simp] theorem u100_0:Run G c100_L0 s k=Run G c100_B0 { s with E:=Aw [0,2,6,8,9,12,44] s.E } (.seq c100_L0 k):=Aq _ _ s k
abbrev S102_0 (a b c d e:V)(B:LE)(H:Hp):St:=⟨[(0,a),(3,b),(5,c),(6,d),(7,e)],[],⟨B,H⟩⟩
@[simp] theorem u102_0:Run G c102_L0 s k=Run G c102_B0 { s with E:=Aw [1,4,11,23] s.E } (.seq c102_L0 k):=Aq _ _ s k
abbrev S108_0 (a b c d e f:V)(B:LE)(H:Hp):St:=⟨[(0,a),(3,b),(4,c),(5,d),(6,e),(7,f)],[],⟨B,H⟩⟩
@[simp] theorem u108_0:Run G c108_L0 s k=Run G c108_B0 { s with E:=Aw [8,14,24,40] s.E } (.seq c108_L0 k):=Aq _ _ s k
abbrev S108_1 (a b c d e f g:V)(B:LE)(H:Hp):St:=⟨[(0,a),(3,b),(4,c),(5,d),(6,e),(9,f),(10,g)],[],⟨B,H⟩⟩
@[simp] theorem u108_1:Run G c108_L1 s k=Run G c108_B1 { s with E:=Aw [7,24,53,74] s.E } (.seq c108_L1 k):=Aq _ _ s k
abbrev S108_2 (a b c d:V)(B:LE)(H:Hp):St:=⟨[(0,a),(3,b),(4,c),(5,d)],[],⟨B,H⟩⟩
@[simp] theorem u108_2:Run G c108_L2 s k=Run G c108_B2 { s with E:=Aw [2,6,9,10,53] s.E } (.seq c108_L2 k):=Aq _ _ s k
abbrev S111_0 (a b c d e f g:V)(B:LE)(H:Hp):St:=⟨[(0,a),(1,b),(2,c),(3,d),(4,e),(10,f),(11,g)],[],⟨B,H⟩⟩
@[simp] theorem u111_0:Run G c111_L0 s k=Run G c111_B0 { s with E:=Aw [12,13,14,15,16,17,18,19,20,25,32,39,56,75,80,97,125] s.E } (.seq c111_L0 k):=Aq _ _ s k
abbrev S115_0 (a b c d e f:V)(B:LE)(H:Hp):St:=⟨[(0,a),(1,b),(4,c),(5,d),(37,e),(38,f)],[],⟨B,H⟩⟩
@[simp] theorem u115_0:Run G c115_L0 s k=Run G c115_B0 { s with E:=Aw [6,7,17,39,65] s.E } (.seq c115_L0 k):=Aq _ _ s k
abbrev S122_0 (a b c:V)(B:LE)(H:Hp):St:=⟨[(1,a),(3,b),(7,c)],[],⟨B,H⟩⟩
@[simp] theorem u122_0:Run G c122_L0 s k=Run G c122_B0 { s with E:=Aw [0,2,4,5,6,8,22] s.E } (.seq c122_L0 k):=Aq _ _ s k
@[simp] theorem u133_0:Run G c133_L0 s k=Run G c133_B0 { s with E:=Aw [0,2,5,9,14] s.E } (.seq c133_L0 k):=Aq _ _ s k
@[simp] theorem u138_0:Run G c138_L0 s k=Run G c138_B0 { s with E:=Aw [1,9,20] s.E } (.seq c138_L0 k):=Aq _ _ s k
abbrev S140_0 (a b c d:V)(B:LE)(H:Hp):St:=⟨[(0,a),(1,b),(2,c),(7,d)],[],⟨B,H⟩⟩
@[simp] theorem u140_0:Run G c140_L0 s k=Run G c140_B0 { s with E:=Aw [6,11,29] s.E } (.seq c140_L0 k):=Aq _ _ s k
abbrev S142_0 (a b c:V)(B:LE)(H:Hp):St:=⟨[(0,a),(1,b),(5,c)],[],⟨B,H⟩⟩
@[simp] theorem u142_0:Run G c142_L0 s k=Run G c142_B0 { s with E:=Aw [4,10,14,25] s.E } (.seq c142_L0 k):=Aq _ _ s k
abbrev S143_0 (a b c:V)(B:LE)(H:Hp):St:=⟨[(0,a),(1,b),(2,c)],[],⟨B,H⟩⟩
@[simp] theorem u143_0:Run G c143_L0 s k=Run G c143_B0 { s with E:=Aw [6,14,22,26,42,53] s.E } (.seq c143_L0 k):=Aq _ _ s k
abbrev S145_0 (a b c d e f:V)(B:LE)(H:Hp):St:=⟨[(0,a),(1,b),(2,c),(3,d),(8,e),(9,f)],[],⟨B,H⟩⟩
@[simp] theorem u145_0:Run G c145_L0 s k=Run G c145_B0 { s with E:=Aw [14,34] s.E } (.seq c145_L0 k):=Aq _ _ s k
abbrev S145_1 (a b c d e:V)(B:LE)(H:Hp):St:=⟨[(0,a),(1,b),(2,c),(3,d),(8,e)],[],⟨B,H⟩⟩
@[simp] theorem u145_1:Run G c145_L1 s k=Run G c145_B1 { s with E:=Aw [9,34] s.E } (.seq c145_L1 k):=Aq _ _ s k
abbrev S146_0 (a b c d e f:V)(B:LE)(H:Hp):St:=⟨[(0,a),(3,b),(8,c),(9,d),(10,e),(11,f)],[],⟨B,H⟩⟩
@[simp] theorem u146_0:Run G c146_L0 s k=Run G c146_B0 { s with E:=Aw [1,2,21] s.E } (.seq c146_L0 k):=Aq _ _ s k
abbrev S146_1 (a b c d e:V)(B:LE)(H:Hp):St:=⟨[(0,a),(3,b),(8,c),(9,d),(12,e)],[],⟨B,H⟩⟩
@[simp] theorem u146_1:Run G c146_L1 s k=Run G c146_B1 { s with E:=Aw [10,11,21,33] s.E } (.seq c146_L1 k):=Aq _ _ s k
abbrev S147_0 (a b c d e f:V)(B:LE)(H:Hp):St:=⟨[(0,a),(1,b),(8,c),(9,d),(10,e),(11,f)],[],⟨B,H⟩⟩
@[simp] theorem u147_0:Run G c147_L0 s k=Run G c147_B0 { s with E:=Aw [2,3,12,17,35,45] s.E } (.seq c147_L0 k):=Aq _ _ s k
abbrev S149_0 (a b c:V)(B:LE)(H:Hp):St:=⟨[(0,a),(8,b),(9,c)],[],⟨B,H⟩⟩
@[simp] theorem u149_0:Run G c149_L0 s k=Run G c149_B0 { s with E:=Aw [1,2,3,15] s.E } (.seq c149_L0 k):=Aq _ _ s k
abbrev S150_0 (a b c d e f:V)(B:LE)(H:Hp):St:=⟨[(0,a),(1,b),(2,c),(3,d),(9,e),(10,f)],[],⟨B,H⟩⟩
@[simp] theorem u150_0:Run G c150_L0 s k=Run G c150_B0 { s with E:=Aw [16,36] s.E } (.seq c150_L0 k):=Aq _ _ s k
abbrev S150_1 (a b c d e f g:V)(B:LE)(H:Hp):St:=⟨[(0,a),(1,b),(2,c),(3,d),(9,e),(10,f),(11,g)],[],⟨B,H⟩⟩
@[simp] theorem u150_1:Run G c150_L1 s k=Run G c150_B1 { s with E:=Aw [36,41,45,65,69,84] s.E } (.seq c150_L1 k):=Aq _ _ s k
abbrev S150_2 (a b c d e f g:V)(B:LE)(H:Hp):St:=⟨[(0,a),(1,b),(2,c),(3,d),(9,e),(10,f),(12,g)],[],⟨B,H⟩⟩
@[simp] theorem u150_2:Run G c150_L2 s k=Run G c150_B2 { s with E:=Aw [11,36,41,45,65,69,84,104,109,124] s.E } (.seq c150_L2 k):=Aq _ _ s k
abbrev S150_3 (a b c d e f:V)(B:LE)(H:Hp):St:=⟨[(0,a),(1,b),(2,c),(3,d),(9,e),(10,f)],[],⟨B,H⟩⟩
@[simp] theorem u150_3:Run G c150_L3 s k=Run G c150_B3 { s with E:=Aw [8,11,12,36,41,45,65,69,84,104,109,124] s.E } (.seq c150_L3 k):=Aq _ _ s k
abbrev S151_0 (a b c d e:V)(B:LE)(H:Hp):St:=⟨[(0,a),(1,b),(4,c),(11,d),(12,e)],[],⟨B,H⟩⟩
@[simp] theorem u151_0:Run G c151_L0 s k=Run G c151_B0 { s with E:=Aw [2,3,10,47,65,70] s.E } (.seq c151_L0 k):=Aq _ _ s k
abbrev S151_1 (a b c d e:V)(B:LE)(H:Hp):St:=⟨[(0,a),(1,b),(4,c),(11,d),(12,e)],[],⟨B,H⟩⟩
@[simp] theorem u151_1:Run G c151_L1 s k=Run G c151_B1 { s with E:=Aw [47,65] s.E } (.seq c151_L1 k):=Aq _ _ s k
abbrev S151_2 (a b c d e:V)(B:LE)(H:Hp):St:=⟨[(0,a),(1,b),(4,c),(11,d),(12,e)],[],⟨B,H⟩⟩
@[simp] theorem u151_2:Run G c151_L2 s k=Run G c151_B2 { s with E:=Aw [2,3,10,47,65,70] s.E } (.seq c151_L2 k):=Aq _ _ s k
abbrev S152_0 (a b c d e:V)(B:LE)(H:Hp):St:=⟨[(0,a),(1,b),(4,c),(12,d),(13,e)],[],⟨B,H⟩⟩
@[simp] theorem u152_0:Run G c152_L0 s k=Run G c152_B0 { s with E:=Aw [2,3,10,11,47] s.E } (.seq c152_L0 k):=Aq _ _ s k
abbrev S152_1 (a b c d e:V)(B:LE)(H:Hp):St:=⟨[(0,a),(1,b),(4,c),(12,d),(13,e)],[],⟨B,H⟩⟩
@[simp] theorem u152_1:Run G c152_L1 s k=Run G c152_B1 { s with E:=Aw [47,66] s.E } (.seq c152_L1 k):=Aq _ _ s k
abbrev S152_2 (a b c d e:V)(B:LE)(H:Hp):St:=⟨[(0,a),(1,b),(4,c),(12,d),(13,e)],[],⟨B,H⟩⟩
@[simp] theorem u152_2:Run G c152_L2 s k=Run G c152_B2 { s with E:=Aw [66,71,120,139,144] s.E } (.seq c152_L2 k):=Aq _ _ s k
abbrev S152_3 (a b c d e:V)(B:LE)(H:Hp):St:=⟨[(0,a),(1,b),(4,c),(12,d),(13,e)],[],⟨B,H⟩⟩
@[simp] theorem u152_3:Run G c152_L3 s k=Run G c152_B3 { s with E:=Aw [120,139] s.E } (.seq c152_L3 k):=Aq _ _ s k
abbrev S152_4 (a b c d e:V)(B:LE)(H:Hp):St:=⟨[(0,a),(1,b),(4,c),(12,d),(13,e)],[],⟨B,H⟩⟩
@[simp] theorem u152_4:Run G c152_L4 s k=Run G c152_B4 { s with E:=Aw [66,71,120,139,144] s.E } (.seq c152_L4 k):=Aq _ _ s k
abbrev S161_0 (a b c d e f:V)(B:LE)(H:Hp):St:=⟨[(0,a),(4,b),(6,c),(18,d),(19,e),(20,f)],[],⟨B,H⟩⟩
@[simp] theorem u161_0:Run G c161_L0 s k=Run G c161_B0 { s with E:=Aw [1,3,5,7,8,13,21] s.E } (.seq c161_L0 k):=Aq _ _ s k
abbrev S161_1 (a b c d:V)(B:LE)(H:Hp):St:=⟨[(4,a),(6,b),(9,c),(10,d)],[],⟨B,H⟩⟩
@[simp] theorem u161_1:Run G c161_L1 s k=Run G c161_B1 { s with E:=Aw [34,39,54] s.E } (.seq c161_L1 k):=Aq _ _ s k
abbrev S161_2 (a b c:V)(B:LE)(H:Hp):St:=⟨[(4,a),(6,b),(9,c)],[],⟨B,H⟩⟩
@[simp] theorem u161_2:Run G c161_L2 s k=Run G c161_B2 { s with E:=Aw [0,10,18,19,20,21,39] s.E } (.seq c161_L2 k):=Aq _ _ s k
abbrev S174_0 (a b c d e f:V)(B:LE)(H:Hp):St:=⟨[(1,a),(2,b),(3,c),(6,d),(11,e),(12,f)],[],⟨B,H⟩⟩
@[simp] theorem u174_0:Run G c174_L0 s k=Run G c174_B0 { s with E:=Aw [0,7,8,10,20,28,32,37,47,59] s.E } (.seq c174_L0 k):=Aq _ _ s k
abbrev S177_0 (a b c d e:V)(B:LE)(H:Hp):St:=⟨[(0,a),(2,b),(3,c),(4,d),(10,e)],[],⟨B,H⟩⟩
@[simp] theorem u177_0:Run G c177_L0 s k=Run G c177_B0 { s with E:=Aw [1,11,18,40,58] s.E } (.seq c177_L0 k):=Aq _ _ s k
abbrev S184_0 (a b c d e f g h i j k l m n o p q r s:V)(B:LE)(H:Hp):St:=⟨[(2,a),(4,b),(5,c),(6,d),(7,e),(8,f),(9,g),(10,h),(11,i),(13,j),(28,k),(29,l),(30,m),(44,n),(45,o),(46,p),(64,q),(65,r),(66,s)],[],⟨B,H⟩⟩
@[simp] theorem u184_0:Run G c184_L0 s k=Run G c184_B0 { s with E:=Aw [12,14,15,47,55,67,84] s.E } (.seq c184_L0 k):=Aq _ _ s k
abbrev S184_1 (a b c d e f g h i j k l m n:V)(B:LE)(H:Hp):St:=⟨[(2,a),(4,b),(5,c),(6,d),(7,e),(8,f),(9,g),(10,h),(28,i),(29,j),(30,k),(44,l),(45,m),(46,n)],[],⟨B,H⟩⟩
@[simp] theorem u184_1:Run G c184_L1 s k=Run G c184_B1 { s with E:=Aw [11,12,13,31,39,47,55,64,65,66,67,103] s.E } (.seq c184_L1 k):=Aq _ _ s k
abbrev S184_2 (a b c d e f g h:V)(B:LE)(H:Hp):St:=⟨[(2,a),(4,b),(5,c),(6,d),(7,e),(28,f),(29,g),(30,h)],[],⟨B,H⟩⟩
@[simp] theorem u184_2:Run G c184_L2 s k=Run G c184_B2 { s with E:=Aw [0,1,8,9,10,31,39,44,45,46,47] s.E } (.seq c184_L2 k):=Aq _ _ s k
abbrev S207_0 (a b c:V)(B:LE)(H:Hp):St:=⟨[(0,a),(3,b),(4,c)],[],⟨B,H⟩⟩
@[simp] theorem u207_0:Run G c207_L0 s k=Run G c207_B0 { s with E:=Aw [2,8] s.E } (.seq c207_L0 k):=Aq _ _ s k
abbrev S208_0 (a b c d:V)(B:LE)(H:Hp):St:=⟨[(2,a),(3,b),(9,c),(10,d)],[],⟨B,H⟩⟩
@[simp] theorem u208_0:Run G c208_L0 s k=Run G c208_B0 { s with E:=Aw [0,1,6,7,8,11,12,17,24,29,42] s.E } (.seq c208_L0 k):=Aq _ _ s k
abbrev S218_0 (a b c d e f g h i j k l m:V)(B:LE)(H:Hp):St:=⟨[(1,a),(2,b),(4,c),(5,d),(6,e),(8,f),(9,g),(15,h),(16,i),(17,j),(24,k),(25,l),(26,m)],[],⟨B,H⟩⟩
@[simp] theorem u218_0:Run G c218_L0 s k=Run G c218_B0 { s with E:=Aw [10,11,18,27,33] s.E } (.seq c218_L0 k):=Aq _ _ s k
abbrev S218_1 (a b c d e f g h:V)(B:LE)(H:Hp):St:=⟨[(1,a),(2,b),(4,c),(5,d),(6,e),(15,f),(16,g),(17,h)],[],⟨B,H⟩⟩
@[simp] theorem u218_1:Run G c218_L1 s k=Run G c218_B1 { s with E:=Aw [0,8,9,24,25,26,27] s.E } (.seq c218_L1 k):=Aq _ _ s k
abbrev S220_0 (a b c d e f g:V)(B:LE)(H:Hp):St:=⟨[(0,a),(1,b),(2,c),(7,d),(14,e),(15,f),(16,g)],[],⟨B,H⟩⟩
@[simp] theorem u220_0:Run G c220_L0 s k=Run G c220_B0 { s with E:=Aw [6,9,17] s.E } (.seq c220_L0 k):=Aq _ _ s k
abbrev S231_0 (a b c:V)(B:LE)(H:Hp):St:=⟨[(0,a),(1,b),(4,c)],[],⟨B,H⟩⟩
@[simp] theorem u231_0:Run G c231_L0 s k=Run G c231_B0 { s with E:=Aw [5,6,7,8,9,10,11,20] s.E } (.seq c231_L0 k):=Aq _ _ s k
abbrev S243_0 (a b c d e f g h:V)(B:LE)(H:Hp):St:=⟨[(0,a),(1,b),(3,c),(4,d),(7,e),(33,f),(34,g),(35,h)],[],⟨B,H⟩⟩
@[simp] theorem u243_0:Run G c243_L0 s k=Run G c243_B0 { s with E:=Aw [2,6,8,9,14,20,21,22,24,25,26,27,29,30,31,36,42] s.E } (.seq c243_L0 k):=Aq _ _ s k
end Go.Mx.Tryz
