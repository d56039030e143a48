/- The loops of this seat, one round at a time. -/
import Derived.Test.YtlhjjcaifenlbaaGreatDoorSeat
namespace Go.Mx.Tryz
variable (s:St) (k:K)
abbrev S10_0 (a b c:V)(B:LE)(H:Hp):St:=⟨[(1,a),(16,b),(17,c)],[],⟨B,H⟩⟩
@[simp] theorem u10_0:Run G c10_L0 s k=Run G c10_B0 { s with E:=Av [0,2,3,13,18,27] s.E } (.seq c10_L0 k):=Ar _ _ s k
abbrev S21_0 (a b c d:V)(B:LE)(H:Hp):St:=⟨[(2,a),(3,b),(9,c),(10,d)],[],⟨B,H⟩⟩
@[simp] theorem u21_0:Run G c21_L0 s k=Run G c21_B0 { s with E:=Av [0,1,4,5,11,40] s.E } (.seq c21_L0 k):=Ar _ _ s k
abbrev S21_1 (a b c d:V)(B:LE)(H:Hp):St:=⟨[(2,a),(3,b),(44,c),(45,d)],[],⟨B,H⟩⟩
@[simp] theorem u21_1:Run G c21_L1 s k=Run G c21_B1 { s with E:=Av [6,9,10,11,46,63] s.E } (.seq c21_L1 k):=Ar _ _ s k
abbrev S23_0 (a b c d e f g h:V)(B:LE)(H:Hp):St:=⟨[(3,a),(4,b),(10,c),(12,d),(13,e),(14,f),(51,g),(52,h)],[],⟨B,H⟩⟩
@[simp] theorem u23_0:Run G c23_L0 s k=Run G c23_B0 { s with E:=Av [11,15,47,53,68] s.E } (.seq c23_L0 k):=Ar _ _ s k
abbrev S23_1 (a b c d e f:V)(B:LE)(H:Hp):St:=⟨[(3,a),(4,b),(10,c),(12,d),(13,e),(14,f)],[],⟨B,H⟩⟩
@[simp] theorem u23_1:Run G c23_L1 s k=Run G c23_B1 { s with E:=Av [0,1,2,8,9,11,16,17,26,33,36,43,51,52,53,78,82,96] s.E } (.seq c23_L1 k):=Ar _ _ s k
abbrev S24_0 (a b c d e f g:V)(B:LE)(H:Hp):St:=⟨[(3,a),(4,b),(10,c),(12,d),(14,e),(15,f),(16,g)],[],⟨B,H⟩⟩
@[simp] theorem u24_0:Run G c24_L0 s k=Run G c24_B0 { s with E:=Av [17,18,51,57,70] s.E } (.seq c24_L0 k):=Ar _ _ s k
abbrev S24_1 (a b c d e:V)(B:LE)(H:Hp):St:=⟨[(3,a),(4,b),(10,c),(12,d),(14,e)],[],⟨B,H⟩⟩
@[simp] theorem u24_1:Run G c24_L1 s k=Run G c24_B1 { s with E:=Av [0,1,2,8,9,11,13,15,16,19,20,21,22,31,38,45,48,57,83,97] s.E } (.seq c24_L1 k):=Ar _ _ s k
abbrev S30_0 (a b c d e:V)(B:LE)(H:Hp):St:=⟨[(0,a),(5,b),(6,c),(7,d),(8,e)],[],⟨B,H⟩⟩
@[simp] theorem u30_0:Run G c30_L0 s k=Run G c30_B0 { s with E:=Av [4,9,13,28,39,59,91] s.E } (.seq c30_L0 k):=Ar _ _ s k
abbrev S30_1 (a b c:V)(B:LE)(H:Hp):St:=⟨[(0,a),(4,b),(5,c)],[],⟨B,H⟩⟩
@[simp] theorem u30_1:Run G c30_L1 s k=Run G c30_B1 { s with E:=Av [2,3,6,7,8,28] s.E } (.seq c30_L1 k):=Ar _ _ s k
abbrev S35_0 (a b c d:V)(B:LE)(H:Hp):St:=⟨[(4,a),(8,b),(9,c),(10,d)],[],⟨B,H⟩⟩
@[simp] theorem u35_0:Run G c35_L0 s k=Run G c35_B0 { s with E:=Av [0,2,3,6,11,14,19,28] s.E } (.seq c35_L0 k):=Ar _ _ s k
abbrev S35_1 (a b:V)(B:LE)(H:Hp):St:=⟨[(4,a),(7,b)],[],⟨B,H⟩⟩
@[simp] theorem u35_1:Run G c35_L1 s k=Run G c35_B1 { s with E:=Av [8,9,10,11,42,56] s.E } (.seq c35_L1 k):=Ar _ _ s k
abbrev S37_0 (a b c:V)(B:LE)(H:Hp):St:=⟨[(1,a),(2,b),(5,c)],[],⟨B,H⟩⟩
@[simp] theorem u37_0:Run G c37_L0 s k=Run G c37_B0 { s with E:=Av [0,4,8,11,15,25] s.E } (.seq c37_L0 k):=Ar _ _ s k
abbrev S40_0 (a b c:V)(B:LE)(H:Hp):St:=⟨[(0,a),(4,b),(5,c)],[],⟨B,H⟩⟩
@[simp] theorem u40_0:Run G c40_L0 s k=Run G c40_B0 { s with E:=Av [2,3,11,25,39] s.E } (.seq c40_L0 k):=Ar _ _ s k
abbrev S40_1 (a b c:V)(B:LE)(H:Hp):St:=⟨[(0,a),(4,b),(6,c)],[],⟨B,H⟩⟩
@[simp] theorem u40_1:Run G c40_L1 s k=Run G c40_B1 { s with E:=Av [5,11,43,51] s.E } (.seq c40_L1 k):=Ar _ _ s k
abbrev S40_2 (a b:V)(B:LE)(H:Hp):St:=⟨[(4,a),(7,b)],[],⟨B,H⟩⟩
@[simp] theorem u40_2:Run G c40_L2 s k=Run G c40_B2 { s with E:=Av [0,6,43,61,74] s.E } (.seq c40_L2 k):=Ar _ _ s k
abbrev S41_0 (a b c d:V)(B:LE)(H:Hp):St:=⟨[(1,a),(3,b),(23,c),(24,d)],[],⟨B,H⟩⟩
@[simp] theorem u41_0:Run G c41_L0 s k=Run G c41_B0 { s with E:=Av [0,2,6,7,8,9,10,15,22,25,33] s.E } (.seq c41_L0 k):=Ar _ _ s k
abbrev S44_0 (a b c:V)(B:LE)(H:Hp):St:=⟨[(0,a),(1,b),(5,c)],[],⟨B,H⟩⟩
@[simp] theorem u44_0:Run G c44_L0 s k=Run G c44_B0 { s with E:=Av [4,15,28,50,72] s.E } (.seq c44_L0 k):=Ar _ _ s k
abbrev S46_0 (a b c d e:V)(B:LE)(H:Hp):St:=⟨[(1,a),(2,b),(8,c),(26,d),(27,e)],[],⟨B,H⟩⟩
@[simp] theorem u46_0:Run G c46_L0 s k=Run G c46_B0 { s with E:=Av [0,6,7,9,12,22,28,54] s.E } (.seq c46_L0 k):=Ar _ _ s k
abbrev S48_0 (a b c d e:V)(B:LE)(H:Hp):St:=⟨[(0,a),(1,b),(2,c),(8,d),(9,e)],[],⟨B,H⟩⟩
@[simp] theorem u48_0:Run G c48_L0 s k=Run G c48_B0 { s with E:=Av [6,7,12,26,30,48] s.E } (.seq c48_L0 k):=Ar _ _ s k
abbrev S53_0 (a b c d e f:V)(B:LE)(H:Hp):St:=⟨[(1,a),(3,b),(8,c),(24,d),(25,e),(26,f)],[],⟨B,H⟩⟩
@[simp] theorem u53_0:Run G c53_L0 s k=Run G c53_B0 { s with E:=Av [0,2,6,7,10,11,12,15,23,27,38] s.E } (.seq c53_L0 k):=Ar _ _ s k
abbrev S54_0 (a b c d e f g h:V)(B:LE)(H:Hp):St:=⟨[(0,a),(4,b),(7,c),(8,d),(9,e),(16,f),(17,g),(18,h)],[],⟨B,H⟩⟩
@[simp] theorem u54_0:Run G c54_L0 s k=Run G c54_B0 { s with E:=Av [3,6,10,19,25] s.E } (.seq c54_L0 k):=Ar _ _ s k
abbrev S54_1 (a b c d:V)(B:LE)(H:Hp):St:=⟨[(0,a),(7,b),(8,c),(9,d)],[],⟨B,H⟩⟩
@[simp] theorem u54_1:Run G c54_L1 s k=Run G c54_B1 { s with E:=Av [2,4,16,17,18,19] s.E } (.seq c54_L1 k):=Ar _ _ s k
abbrev S55_0 (a b c d:V)(B:LE)(H:Hp):St:=⟨[(4,a),(7,b),(8,c),(9,d)],[],⟨B,H⟩⟩
@[simp] theorem u55_0:Run G c55_L0 s k=Run G c55_B0 { s with E:=Av [0,2,3,6,10] s.E } (.seq c55_L0 k):=Ar _ _ s k
abbrev S57_0 (a b c d e:V)(B:LE)(H:Hp):St:=⟨[(1,a),(2,b),(3,c),(8,d),(9,e)],[],⟨B,H⟩⟩
@[simp] theorem u57_0:Run G c57_L0 s k=Run G c57_B0 { s with E:=Av [0,6,7,10,11,14,22,26,40] s.E } (.seq c57_L0 k):=Ar _ _ s k
abbrev S58_0 (a b c d e f:V)(B:LE)(H:Hp):St:=⟨[(2,a),(7,b),(8,c),(9,d),(10,e),(11,f)],[],⟨B,H⟩⟩
@[simp] theorem u58_0:Run G c58_L0 s k=Run G c58_B0 { s with E:=Av [0,1,4,5,6,12,13,18,27,42] s.E } (.seq c58_L0 k):=Ar _ _ s k
abbrev S62_0 (a b c d:V)(B:LE)(H:Hp):St:=⟨[(0,a),(8,b),(9,c),(10,d)],[],⟨B,H⟩⟩
@[simp] theorem u62_0:Run G c62_L0 s k=Run G c62_B0 { s with E:=Av [2,3,4,7,11,42] s.E } (.seq c62_L0 k):=Ar _ _ s k
abbrev S63_0 (a b c d:V)(B:LE)(H:Hp):St:=⟨[(0,a),(3,b),(6,c),(7,d)],[],⟨B,H⟩⟩
@[simp] theorem u63_0:Run G c63_L0 s k=Run G c63_B0 { s with E:=Av [2,4,8] s.E } (.seq c63_L0 k):=Ar _ _ s k
abbrev S70_0 (a b c d e:V)(B:LE)(H:Hp):St:=⟨[(1,a),(3,b),(4,c),(5,d),(6,e)],[],⟨B,H⟩⟩
@[simp] theorem u70_0:Run G c70_L0 s k=Run G c70_B0 { s with E:=Av [7,35,61,65,74,83,103] s.E } (.seq c70_L0 k):=Ar _ _ s k
abbrev S70_1 (a b c:V)(B:LE)(H:Hp):St:=⟨[(1,a),(3,b),(4,c)],[],⟨B,H⟩⟩
@[simp] theorem u70_1:Run G c70_L1 s k=Run G c70_B1 { s with E:=Av [0,2,5,6,32,65] s.E } (.seq c70_L1 k):=Ar _ _ s k
abbrev S71_0 (a b c:V)(B:LE)(H:Hp):St:=⟨[(1,a),(2,b),(6,c)],[],⟨B,H⟩⟩
@[simp] theorem u71_0:Run G c71_L0 s k=Run G c71_B0 { s with E:=Av [0,4,5,9,15,19,35] s.E } (.seq c71_L0 k):=Ar _ _ s k
abbrev S72_0 (a b:V)(B:LE)(H:Hp):St:=⟨[(0,a),(3,b)],[],⟨B,H⟩⟩
@[simp] theorem u72_0:Run G c72_L0 s k=Run G c72_B0 { s with E:=Av [2,7,54] s.E } (.seq c72_L0 k):=Ar _ _ s k
abbrev S74_0 (a b c d e f g:V)(B:LE)(H:Hp):St:=⟨[(0,a),(2,b),(4,c),(5,d),(6,e),(7,f),(8,g)],[],⟨B,H⟩⟩
@[simp] theorem u74_0:Run G c74_L0 s k=Run G c74_B0 { s with E:=Av [3,16,37] s.E } (.seq c74_L0 k):=Ar _ _ s k
abbrev S79_0 (a b c d e:V)(B:LE)(H:Hp):St:=⟨[(0,a),(3,b),(5,c),(6,d),(7,e)],[],⟨B,H⟩⟩
@[simp] theorem u79_0:Run G c79_L0 s k=Run G c79_B0 { s with E:=Av [1,4,11,23] s.E } (.seq c79_L0 k):=Ar _ _ s k
abbrev S82_0 (a b c d e f g h i j k:V)(B:LE)(H:Hp):St:=⟨[(2,a),(6,b),(7,c),(8,d),(10,e),(18,f),(19,g),(20,h),(25,i),(26,j),(27,k)],[],⟨B,H⟩⟩
@[simp] theorem u82_0:Run G c82_L0 s k=Run G c82_B0 { s with E:=Av [12,13,14,21,28,44,52,55] s.E } (.seq c82_L0 k):=Ar _ _ s k
abbrev S82_1 (a b c d e f g:V)(B:LE)(H:Hp):St:=⟨[(2,a),(6,b),(7,c),(8,d),(18,e),(19,f),(20,g)],[],⟨B,H⟩⟩
@[simp] theorem u82_1:Run G c82_L1 s k=Run G c82_B1 { s with E:=Av [0,1,4,5,10,25,26,27,28] s.E } (.seq c82_L1 k):=Ar _ _ s k
abbrev S83_0 (a b c d:V)(B:LE)(H:Hp):St:=⟨[(0,a),(1,b),(12,c),(13,d)],[],⟨B,H⟩⟩
@[simp] theorem u83_0:Run G c83_L0 s k=Run G c83_B0 { s with E:=Av [4,5,10,14,24] s.E } (.seq c83_L0 k):=Ar _ _ s k
abbrev S84_0 (a b c d:V)(B:LE)(H:Hp):St:=⟨[(2,a),(3,b),(9,c),(10,d)],[],⟨B,H⟩⟩
@[simp] theorem u84_0:Run G c84_L0 s k=Run G c84_B0 { s with E:=Av [0,1,6,7,8,11,12,17,24,29,42] s.E } (.seq c84_L0 k):=Ar _ _ s k
abbrev S87_0 (a b c d e:V)(B:LE)(H:Hp):St:=⟨[(0,a),(6,b),(16,c),(17,d),(18,e)],[],⟨B,H⟩⟩
@[simp] theorem u87_0:Run G c87_L0 s k=Run G c87_B0 { s with E:=Av [1,4,5,8,9,12,19] s.E } (.seq c87_L0 k):=Ar _ _ s k
abbrev S88_0 (a b c d e:V)(B:LE)(H:Hp):St:=⟨[(3,a),(5,b),(24,c),(25,d),(26,e)],[],⟨B,H⟩⟩
@[simp] theorem u88_0:Run G c88_L0 s k=Run G c88_B0 { s with E:=Av [0,2,4,7,19,27] s.E } (.seq c88_L0 k):=Ar _ _ s k
abbrev S90_0 (a b c:V)(B:LE)(H:Hp):St:=⟨[(0,a),(1,b),(2,c)],[],⟨B,H⟩⟩
@[simp] theorem u90_0:Run G c90_L0 s k=Run G c90_B0 { s with E:=Av [6,14,22,26,42,53] s.E } (.seq c90_L0 k):=Ar _ _ s k
abbrev S98_0 (a b c d e:V)(B:LE)(H:Hp):St:=⟨[(0,a),(2,b),(3,c),(5,d),(6,e)],[],⟨B,H⟩⟩
@[simp] theorem u98_0:Run G c98_L0 s k=Run G c98_B0 { s with E:=Av [23,35] s.E } (.seq c98_L0 k):=Ar _ _ s k
abbrev S99_0 (a b c d:V)(B:LE)(H:Hp):St:=⟨[(1,a),(3,b),(4,c),(5,d)],[],⟨B,H⟩⟩
@[simp] theorem u99_0:Run G c99_L0 s k=Run G c99_B0 { s with E:=Av [25,41] s.E } (.seq c99_L0 k):=Ar _ _ s k
abbrev S99_1 (a b c:V)(B:LE)(H:Hp):St:=⟨[(1,a),(3,b),(4,c)],[],⟨B,H⟩⟩
@[simp] theorem u99_1:Run G c99_L1 s k=Run G c99_B1 { s with E:=Av [0,2,5,11,41] s.E } (.seq c99_L1 k):=Ar _ _ s k
abbrev S99_2 (a b c d e:V)(B:LE)(H:Hp):St:=⟨[(1,a),(3,b),(6,c),(7,d),(8,e)],[],⟨B,H⟩⟩
@[simp] theorem u99_2:Run G c99_L2 s k=Run G c99_B2 { s with E:=Av [9,59,63,87] s.E } (.seq c99_L2 k):=Ar _ _ s k
abbrev S99_3 (a b c d:V)(B:LE)(H:Hp):St:=⟨[(1,a),(3,b),(6,c),(7,d)],[],⟨B,H⟩⟩
@[simp] theorem u99_3:Run G c99_L3 s k=Run G c99_B3 { s with E:=Av [8,55,63] s.E } (.seq c99_L3 k):=Ar _ _ s k
abbrev S99_4 (a b c:V)(B:LE)(H:Hp):St:=⟨[(1,a),(3,b),(6,c)],[],⟨B,H⟩⟩
@[simp] theorem u99_4:Run G c99_L4 s k=Run G c99_B4 { s with E:=Av [0,2,7,11,59] s.E } (.seq c99_L4 k):=Ar _ _ s k
abbrev S100_0 (a b c d e f:V)(B:LE)(H:Hp):St:=⟨[(2,a),(3,b),(4,c),(5,d),(9,e),(10,f)],[],⟨B,H⟩⟩
@[simp] theorem u100_0:Run G c100_L0 s k=Run G c100_B0 { s with E:=Av [0,1,8,15] s.E } (.seq c100_L0 k):=Ar _ _ s k
abbrev S103_0 (a b c d e f g:V)(B:LE)(H:Hp):St:=⟨[(0,a),(2,b),(4,c),(5,d),(26,e),(27,f),(28,g)],[],⟨B,H⟩⟩
@[simp] theorem u103_0:Run G c103_L0 s k=Run G c103_B0 { s with E:=Av [3,7,16,29] s.E } (.seq c103_L0 k):=Ar _ _ s k
abbrev S104_0 (a b c d e f g h i:V)(B:LE)(H:Hp):St:=⟨[(1,a),(4,b),(5,c),(47,d),(48,e),(49,f),(74,g),(75,h),(76,i)],[],⟨B,H⟩⟩
@[simp] theorem u104_0:Run G c104_L0 s k=Run G c104_B0 { s with E:=Av [7,50,72,77,114] s.E } (.seq c104_L0 k):=Ar _ _ s k
abbrev S104_1 (a b c d:V)(B:LE)(H:Hp):St:=⟨[(1,a),(47,b),(48,c),(49,d)],[],⟨B,H⟩⟩
@[simp] theorem u104_1:Run G c104_L1 s k=Run G c104_B1 { s with E:=Av [0,2,3,4,5,45,74,75,76,77] s.E } (.seq c104_L1 k):=Ar _ _ s k
abbrev S105_0 (a b c d e:V)(B:LE)(H:Hp):St:=⟨[(2,a),(5,b),(12,c),(13,d),(14,e)],[],⟨B,H⟩⟩
@[simp] theorem u105_0:Run G c105_L0 s k=Run G c105_B0 { s with E:=Av [0,1,4,7,15] s.E } (.seq c105_L0 k):=Ar _ _ s k
abbrev S108_0 (a b c d e f g:V)(B:LE)(H:Hp):St:=⟨[(0,a),(1,b),(2,c),(3,d),(4,e),(10,f),(11,g)],[],⟨B,H⟩⟩
@[simp] theorem u108_0:Run G c108_L0 s k=Run G c108_B0 { s with E:=Av [12,13,14,15,16,17,18,19,20,25,32,39,56,75,80,97,125] s.E } (.seq c108_L0 k):=Ar _ _ s k
abbrev S111_0 (a b:V)(B:LE)(H:Hp):St:=⟨[(0,a),(3,b)],[],⟨B,H⟩⟩
@[simp] theorem u111_0:Run G c111_L0 s k=Run G c111_B0 { s with E:=Av [2,4,12,16,54] s.E } (.seq c111_L0 k):=Ar _ _ s k
abbrev S112_0 (a b c d:V)(B:LE)(H:Hp):St:=⟨[(1,a),(2,b),(5,c),(6,d)],[],⟨B,H⟩⟩
@[simp] theorem u112_0:Run G c112_L0 s k=Run G c112_B0 { s with E:=Av [0,4,14] s.E } (.seq c112_L0 k):=Ar _ _ s k
abbrev S113_0 (a b c d e f:V)(B:LE)(H:Hp):St:=⟨[(1,a),(2,b),(3,c),(6,d),(11,e),(12,f)],[],⟨B,H⟩⟩
@[simp] theorem u113_0:Run G c113_L0 s k=Run G c113_B0 { s with E:=Av [0,7,8,10,20,28,32,37,47,59] s.E } (.seq c113_L0 k):=Ar _ _ s k
abbrev S115_0 (a b c d:V)(B:LE)(H:Hp):St:=⟨[(0,a),(1,b),(6,c),(7,d)],[],⟨B,H⟩⟩
@[simp] theorem u115_0:Run G c115_L0 s k=Run G c115_B0 { s with E:=Av [4,5,8,11,15] s.E } (.seq c115_L0 k):=Ar _ _ s k
abbrev S116_0 (a b c d:V)(B:LE)(H:Hp):St:=⟨[(0,a),(3,b),(4,c),(5,d)],[],⟨B,H⟩⟩
@[simp] theorem u116_0:Run G c116_L0 s k=Run G c116_B0 { s with E:=Av [2,15,28] s.E } (.seq c116_L0 k):=Ar _ _ s k
abbrev S116_1 (a b c d e:V)(B:LE)(H:Hp):St:=⟨[(0,a),(3,b),(4,c),(6,d),(7,e)],[],⟨B,H⟩⟩
@[simp] theorem u116_1:Run G c116_L1 s k=Run G c116_B1 { s with E:=Av [5,28,48] s.E } (.seq c116_L1 k):=Ar _ _ s k
abbrev S117_0 (a b c d:V)(B:LE)(H:Hp):St:=⟨[(3,a),(7,b),(8,c),(9,d)],[],⟨B,H⟩⟩
@[simp] theorem u117_0:Run G c117_L0 s k=Run G c117_B0 { s with E:=Av [0,2,5,10] s.E } (.seq c117_L0 k):=Ar _ _ s k
abbrev S118_0 (a b c d e f g:V)(B:LE)(H:Hp):St:=⟨[(0,a),(4,b),(5,c),(7,d),(15,e),(16,f),(17,g)],[],⟨B,H⟩⟩
@[simp] theorem u118_0:Run G c118_L0 s k=Run G c118_B0 { s with E:=Av [1,2,6,9,18] s.E } (.seq c118_L0 k):=Ar _ _ s k
abbrev S130_0 (a b c d:V)(B:LE)(H:Hp):St:=⟨[(1,a),(3,b),(5,c),(7,d)],[],⟨B,H⟩⟩
@[simp] theorem u130_0:Run G c130_L0 s k=Run G c130_B0 { s with E:=Av [0,2,6,8,9,12,44] s.E } (.seq c130_L0 k):=Ar _ _ s k
abbrev S132_0 (a b c d e f:V)(B:LE)(H:Hp):St:=⟨[(0,a),(4,b),(6,c),(18,d),(19,e),(20,f)],[],⟨B,H⟩⟩
@[simp] theorem u132_0:Run G c132_L0 s k=Run G c132_B0 { s with E:=Av [1,3,5,7,8,13,21] s.E } (.seq c132_L0 k):=Ar _ _ s k
abbrev S132_1 (a b c d:V)(B:LE)(H:Hp):St:=⟨[(4,a),(6,b),(9,c),(10,d)],[],⟨B,H⟩⟩
@[simp] theorem u132_1:Run G c132_L1 s k=Run G c132_B1 { s with E:=Av [34,39,54] s.E } (.seq c132_L1 k):=Ar _ _ s k
abbrev S132_2 (a b c:V)(B:LE)(H:Hp):St:=⟨[(4,a),(6,b),(9,c)],[],⟨B,H⟩⟩
@[simp] theorem u132_2:Run G c132_L2 s k=Run G c132_B2 { s with E:=Av [0,10,18,19,20,21,39] s.E } (.seq c132_L2 k):=Ar _ _ s k
abbrev S135_0 (a b c d:V)(B:LE)(H:Hp):St:=⟨[(0,a),(13,b),(14,c),(15,d)],[],⟨B,H⟩⟩
@[simp] theorem u135_0:Run G c135_L0 s k=Run G c135_B0 { s with E:=Av [2,3,4,12,16,51] s.E } (.seq c135_L0 k):=Ar _ _ s k
abbrev S136_0 (a b c d e f:V)(B:LE)(H:Hp):St:=⟨[(1,a),(2,b),(3,c),(6,d),(11,e),(12,f)],[],⟨B,H⟩⟩
@[simp] theorem u136_0:Run G c136_L0 s k=Run G c136_B0 { s with E:=Av [0,7,8,10,13,14,15,16,17,25,30,40,50,61] s.E } (.seq c136_L0 k):=Ar _ _ s k
abbrev S138_0 (a b c d e f:V)(B:LE)(H:Hp):St:=⟨[(0,a),(1,b),(2,c),(3,d),(8,e),(9,f)],[],⟨B,H⟩⟩
@[simp] theorem u138_0:Run G c138_L0 s k=Run G c138_B0 { s with E:=Av [14,34] s.E } (.seq c138_L0 k):=Ar _ _ s k
abbrev S138_1 (a b c d e:V)(B:LE)(H:Hp):St:=⟨[(0,a),(1,b),(2,c),(3,d),(8,e)],[],⟨B,H⟩⟩
@[simp] theorem u138_1:Run G c138_L1 s k=Run G c138_B1 { s with E:=Av [9,34] s.E } (.seq c138_L1 k):=Ar _ _ s k
abbrev S139_0 (a b c d e f:V)(B:LE)(H:Hp):St:=⟨[(0,a),(3,b),(8,c),(9,d),(10,e),(11,f)],[],⟨B,H⟩⟩
@[simp] theorem u139_0:Run G c139_L0 s k=Run G c139_B0 { s with E:=Av [1,2,21] s.E } (.seq c139_L0 k):=Ar _ _ s k
abbrev S139_1 (a b c d e:V)(B:LE)(H:Hp):St:=⟨[(0,a),(3,b),(8,c),(9,d),(12,e)],[],⟨B,H⟩⟩
@[simp] theorem u139_1:Run G c139_L1 s k=Run G c139_B1 { s with E:=Av [10,11,21,33] s.E } (.seq c139_L1 k):=Ar _ _ s k
abbrev S140_0 (a b c d e f:V)(B:LE)(H:Hp):St:=⟨[(0,a),(1,b),(8,c),(9,d),(10,e),(11,f)],[],⟨B,H⟩⟩
@[simp] theorem u140_0:Run G c140_L0 s k=Run G c140_B0 { s with E:=Av [2,3,12,17,35,45] s.E } (.seq c140_L0 k):=Ar _ _ s k
abbrev S142_0 (a b c:V)(B:LE)(H:Hp):St:=⟨[(0,a),(8,b),(9,c)],[],⟨B,H⟩⟩
@[simp] theorem u142_0:Run G c142_L0 s k=Run G c142_B0 { s with E:=Av [1,2,3,15] s.E } (.seq c142_L0 k):=Ar _ _ s k
abbrev S143_0 (a b c d e f:V)(B:LE)(H:Hp):St:=⟨[(0,a),(1,b),(2,c),(3,d),(9,e),(10,f)],[],⟨B,H⟩⟩
@[simp] theorem u143_0:Run G c143_L0 s k=Run G c143_B0 { s with E:=Av [16,36] s.E } (.seq c143_L0 k):=Ar _ _ s k
abbrev S143_1 (a b c d e f g:V)(B:LE)(H:Hp):St:=⟨[(0,a),(1,b),(2,c),(3,d),(9,e),(10,f),(11,g)],[],⟨B,H⟩⟩
@[simp] theorem u143_1:Run G c143_L1 s k=Run G c143_B1 { s with E:=Av [36,41,45,65,69,84] s.E } (.seq c143_L1 k):=Ar _ _ s k
abbrev S143_2 (a b c d e f g:V)(B:LE)(H:Hp):St:=⟨[(0,a),(1,b),(2,c),(3,d),(9,e),(10,f),(12,g)],[],⟨B,H⟩⟩
@[simp] theorem u143_2:Run G c143_L2 s k=Run G c143_B2 { s with E:=Av [11,36,41,45,65,69,84,104,109,124] s.E } (.seq c143_L2 k):=Ar _ _ s k
abbrev S143_3 (a b c d e f:V)(B:LE)(H:Hp):St:=⟨[(0,a),(1,b),(2,c),(3,d),(9,e),(10,f)],[],⟨B,H⟩⟩
@[simp] theorem u143_3:Run G c143_L3 s k=Run G c143_B3 { s with E:=Av [8,11,12,36,41,45,65,69,84,104,109,124] s.E } (.seq c143_L3 k):=Ar _ _ s k
abbrev S144_0 (a b c d e:V)(B:LE)(H:Hp):St:=⟨[(0,a),(1,b),(4,c),(11,d),(12,e)],[],⟨B,H⟩⟩
@[simp] theorem u144_0:Run G c144_L0 s k=Run G c144_B0 { s with E:=Av [2,3,10,47,65,70] s.E } (.seq c144_L0 k):=Ar _ _ s k
abbrev S144_1 (a b c d e:V)(B:LE)(H:Hp):St:=⟨[(0,a),(1,b),(4,c),(11,d),(12,e)],[],⟨B,H⟩⟩
@[simp] theorem u144_1:Run G c144_L1 s k=Run G c144_B1 { s with E:=Av [47,65] s.E } (.seq c144_L1 k):=Ar _ _ s k
abbrev S144_2 (a b c d e:V)(B:LE)(H:Hp):St:=⟨[(0,a),(1,b),(4,c),(11,d),(12,e)],[],⟨B,H⟩⟩
@[simp] theorem u144_2:Run G c144_L2 s k=Run G c144_B2 { s with E:=Av [2,3,10,47,65,70] s.E } (.seq c144_L2 k):=Ar _ _ s k
abbrev S145_0 (a b c d e:V)(B:LE)(H:Hp):St:=⟨[(0,a),(1,b),(4,c),(12,d),(13,e)],[],⟨B,H⟩⟩
@[simp] theorem u145_0:Run G c145_L0 s k=Run G c145_B0 { s with E:=Av [2,3,10,11,47] s.E } (.seq c145_L0 k):=Ar _ _ s k
abbrev S145_1 (a b c d e:V)(B:LE)(H:Hp):St:=⟨[(0,a),(1,b),(4,c),(12,d),(13,e)],[],⟨B,H⟩⟩
@[simp] theorem u145_1:Run G c145_L1 s k=Run G c145_B1 { s with E:=Av [47,66] s.E } (.seq c145_L1 k):=Ar _ _ s k
abbrev S145_2 (a b c d e:V)(B:LE)(H:Hp):St:=⟨[(0,a),(1,b),(4,c),(12,d),(13,e)],[],⟨B,H⟩⟩
@[simp] theorem u145_2:Run G c145_L2 s k=Run G c145_B2 { s with E:=Av [66,71,120,139,144] s.E } (.seq c145_L2 k):=Ar _ _ s k
abbrev S145_3 (a b c d e:V)(B:LE)(H:Hp):St:=⟨[(0,a),(1,b),(4,c),(12,d),(13,e)],[],⟨B,H⟩⟩
@[simp] theorem u145_3:Run G c145_L3 s k=Run G c145_B3 { s with E:=Av [120,139] s.E } (.seq c145_L3 k):=Ar _ _ s k
abbrev S145_4 (a b c d e:V)(B:LE)(H:Hp):St:=⟨[(0,a),(1,b),(4,c),(12,d),(13,e)],[],⟨B,H⟩⟩
@[simp] theorem u145_4:Run G c145_L4 s k=Run G c145_B4 { s with E:=Av [66,71,120,139,144] s.E } (.seq c145_L4 k):=Ar _ _ s k
@[simp] theorem u148_0:Run G c148_L0 s k=Run G c148_B0 { s with E:=Av [0,2,5,9,14] s.E } (.seq c148_L0 k):=Ar _ _ s k
abbrev S151_0 (a b c:V)(B:LE)(H:Hp):St:=⟨[(0,a),(3,b),(4,c)],[],⟨B,H⟩⟩
@[simp] theorem u151_0:Run G c151_L0 s k=Run G c151_B0 { s with E:=Av [2,8] s.E } (.seq c151_L0 k):=Ar _ _ s k
@[simp] theorem u153_0:Run G c153_L0 s k=Run G c153_B0 { s with E:=Av [1,9,20] s.E } (.seq c153_L0 k):=Ar _ _ s k
abbrev S154_0 (a b c d:V)(B:LE)(H:Hp):St:=⟨[(0,a),(1,b),(2,c),(7,d)],[],⟨B,H⟩⟩
@[simp] theorem u154_0:Run G c154_L0 s k=Run G c154_B0 { s with E:=Av [6,11,29] s.E } (.seq c154_L0 k):=Ar _ _ s k
abbrev S165_0 (a b c d e f g h i j k l m n o p q r s:V)(B:LE)(H:Hp):St:=⟨[(2,a),(4,b),(5,c),(6,d),(7,e),(8,f),(9,g),(10,h),(11,i),(13,j),(28,k),(29,l),(30,m),(44,n),(45,o),(46,p),(64,q),(65,r),(66,s)],[],⟨B,H⟩⟩
@[simp] theorem u165_0:Run G c165_L0 s k=Run G c165_B0 { s with E:=Av [12,14,15,47,55,67,84] s.E } (.seq c165_L0 k):=Ar _ _ s k
abbrev S165_1 (a b c d e f g h i j k l m n:V)(B:LE)(H:Hp):St:=⟨[(2,a),(4,b),(5,c),(6,d),(7,e),(8,f),(9,g),(10,h),(28,i),(29,j),(30,k),(44,l),(45,m),(46,n)],[],⟨B,H⟩⟩
@[simp] theorem u165_1:Run G c165_L1 s k=Run G c165_B1 { s with E:=Av [11,12,13,31,39,47,55,64,65,66,67,103] s.E } (.seq c165_L1 k):=Ar _ _ s k
abbrev S165_2 (a b c d e f g h:V)(B:LE)(H:Hp):St:=⟨[(2,a),(4,b),(5,c),(6,d),(7,e),(28,f),(29,g),(30,h)],[],⟨B,H⟩⟩
@[simp] theorem u165_2:Run G c165_L2 s k=Run G c165_B2 { s with E:=Av [0,1,8,9,10,31,39,44,45,46,47] s.E } (.seq c165_L2 k):=Ar _ _ s k
abbrev S170_0 (a b c d e f:V)(B:LE)(H:Hp):St:=⟨[(0,a),(1,b),(4,c),(5,d),(37,e),(38,f)],[],⟨B,H⟩⟩
@[simp] theorem u170_0:Run G c170_L0 s k=Run G c170_B0 { s with E:=Av [6,7,17,39,65] s.E } (.seq c170_L0 k):=Ar _ _ s k
abbrev S172_0 (a b c d e:V)(B:LE)(H:Hp):St:=⟨[(0,a),(2,b),(3,c),(4,d),(10,e)],[],⟨B,H⟩⟩
@[simp] theorem u172_0:Run G c172_L0 s k=Run G c172_B0 { s with E:=Av [1,11,18,40,58] s.E } (.seq c172_L0 k):=Ar _ _ s k
abbrev S182_0 (a b c d e f:V)(B:LE)(H:Hp):St:=⟨[(0,a),(3,b),(4,c),(5,d),(6,e),(7,f)],[],⟨B,H⟩⟩
@[simp] theorem u182_0:Run G c182_L0 s k=Run G c182_B0 { s with E:=Av [8,14,24,40] s.E } (.seq c182_L0 k):=Ar _ _ s k
abbrev S182_1 (a b c d e f g:V)(B:LE)(H:Hp):St:=⟨[(0,a),(3,b),(4,c),(5,d),(6,e),(9,f),(10,g)],[],⟨B,H⟩⟩
@[simp] theorem u182_1:Run G c182_L1 s k=Run G c182_B1 { s with E:=Av [7,24,53,74] s.E } (.seq c182_L1 k):=Ar _ _ s k
abbrev S182_2 (a b c d:V)(B:LE)(H:Hp):St:=⟨[(0,a),(3,b),(4,c),(5,d)],[],⟨B,H⟩⟩
@[simp] theorem u182_2:Run G c182_L2 s k=Run G c182_B2 { s with E:=Av [2,6,9,10,53] s.E } (.seq c182_L2 k):=Ar _ _ s k
abbrev S190_0 (a b c:V)(B:LE)(H:Hp):St:=⟨[(1,a),(3,b),(7,c)],[],⟨B,H⟩⟩
@[simp] theorem u190_0:Run G c190_L0 s k=Run G c190_B0 { s with E:=Av [0,2,4,5,6,8,22] s.E } (.seq c190_L0 k):=Ar _ _ s k
abbrev S200_0 (a b c d e f g h i j k l m:V)(B:LE)(H:Hp):St:=⟨[(1,a),(2,b),(4,c),(5,d),(6,e),(8,f),(9,g),(15,h),(16,i),(17,j),(24,k),(25,l),(26,m)],[],⟨B,H⟩⟩
@[simp] theorem u200_0:Run G c200_L0 s k=Run G c200_B0 { s with E:=Av [10,11,18,27,33] s.E } (.seq c200_L0 k):=Ar _ _ s k
abbrev S200_1 (a b c d e f g h:V)(B:LE)(H:Hp):St:=⟨[(1,a),(2,b),(4,c),(5,d),(6,e),(15,f),(16,g),(17,h)],[],⟨B,H⟩⟩
@[simp] theorem u200_1:Run G c200_L1 s k=Run G c200_B1 { s with E:=Av [0,8,9,24,25,26,27] s.E } (.seq c200_L1 k):=Ar _ _ s k
abbrev S202_0 (a b c d e f g:V)(B:LE)(H:Hp):St:=⟨[(0,a),(1,b),(2,c),(7,d),(14,e),(15,f),(16,g)],[],⟨B,H⟩⟩
@[simp] theorem u202_0:Run G c202_L0 s k=Run G c202_B0 { s with E:=Av [6,9,17] s.E } (.seq c202_L0 k):=Ar _ _ s k
abbrev S210_0 (a b c:V)(B:LE)(H:Hp):St:=⟨[(0,a),(1,b),(5,c)],[],⟨B,H⟩⟩
@[simp] theorem u210_0:Run G c210_L0 s k=Run G c210_B0 { s with E:=Av [4,10,14,25] s.E } (.seq c210_L0 k):=Ar _ _ s k
abbrev S230_0 (a b c d e f g h:V)(B:LE)(H:Hp):St:=⟨[(0,a),(1,b),(3,c),(4,d),(7,e),(33,f),(34,g),(35,h)],[],⟨B,H⟩⟩
@[simp] theorem u230_0:Run G c230_L0 s k=Run G c230_B0 { s with E:=Av [2,6,8,9,14,20,21,22,24,25,26,27,29,30,31,36,42] s.E } (.seq c230_L0 k):=Ar _ _ s k
abbrev S265_0 (a b c:V)(B:LE)(H:Hp):St:=⟨[(0,a),(1,b),(4,c)],[],⟨B,H⟩⟩
@[simp] theorem u265_0:Run G c265_L0 s k=Run G c265_B0 { s with E:=Av [5,6,7,8,9,10,11,20] s.E } (.seq c265_L0 k):=Ar _ _ s k
end Go.Mx.Tryz
