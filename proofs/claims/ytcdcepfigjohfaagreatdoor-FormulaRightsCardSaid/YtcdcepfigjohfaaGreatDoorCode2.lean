/- The compact code of the functions of this seat, printed by a program of my own; XComp checks it against the translation. -/
import Derived.Test.YtcdcepfigjohfaaGreatDoorRng
import Derived.Test.YtcdcepfigjohfaaGreatDoorCode0
set_option maxRecDepth 100000
namespace Go.Mx.Tryz

/- internal/strconv.formatBits -/
def c123_B0 : C :=
  (.seq
  (.seq
  (.reg [⟨.l 44, .p .mv, [.v 1], none⟩,
    ⟨.l 45, .p .mv, [.v 15], none⟩,
    ⟨.v 46, .p (.bin .geq), [.l 44, .l 45], none⟩])
  (.ite (.v 46)
    .skip
    (.ex 0)))
  (.blk 1
  (.seq
  (.reg [⟨.l 47, .p .mv, [.v 13], none⟩,
    ⟨.l 48, .p (.bin .sub), [.l 47, .k (.m (.i .i64 1))], none⟩,
    ⟨.v 13, .p .mv, [.l 48], none⟩])
  (.seq
  (.reg [⟨.l 49, .p .mv, [.v 13], none⟩,
    ⟨.l 50, .p .mv, [.v 1], none⟩,
    ⟨.l 51, .p .mv, [.v 16], none⟩,
    ⟨.l 52, .p (.bin .and), [.l 50, .l 51], none⟩,
    ⟨.l 53, .p .ixs, [.k (.m (.s [48, 49, 50, 51, 52, 53, 54, 55, 56, 57, 97, 98, 99, 100, 101, 102, 103, 104, 105, 106, 107, 108, 109, 110, 111, 112, 113, 114, 115, 116, 117, 118, 119, 120, 121, 122])), .l 52], none⟩,
    ⟨.l 54, .p (.ixaA 65 1), [.v 12, .l 49], none⟩,
    ⟨.no, .l (.st 1), [.l 54, .l 53], none⟩])
  (.reg [⟨.l 55, .p .mv, [.v 1], none⟩,
    ⟨.l 56, .p .mv, [.v 14], none⟩,
    ⟨.l 57, .p (.bin .shr), [.l 55, .l 56], none⟩,
    ⟨.v 1, .p .mv, [.l 57], none⟩])))))
def c123_L0 : C := .loop [2, 28, 30, 34, 46] c123_B0
def c123_B1 : C :=
  (.seq
  (.seq
  (.reg [⟨.l 66, .p .mv, [.v 1], none⟩,
    ⟨.l 67, .p .mv, [.v 17], none⟩,
    ⟨.v 68, .p (.bin .geq), [.l 66, .l 67], none⟩])
  (.ite (.v 68)
    .skip
    (.ex 2)))
  (.blk 3
  (.seq
  (.reg [⟨.l 69, .p .mv, [.v 13], none⟩,
    ⟨.l 70, .p (.bin .sub), [.l 69, .k (.m (.i .i64 1))], none⟩,
    ⟨.v 13, .p .mv, [.l 70], none⟩])
  (.seq
  (.reg [⟨.l 71, .p .mv, [.v 1], none⟩,
    ⟨.l 72, .p .mv, [.v 17], none⟩,
    ⟨.l 73, .p (.bin .quo), [.l 71, .l 72], none⟩,
    ⟨.v 18, .p .mv, [.l 73], none⟩])
  (.seq
  (.reg [⟨.l 74, .p .mv, [.v 13], none⟩,
    ⟨.l 75, .p .mv, [.v 1], none⟩,
    ⟨.l 76, .p .mv, [.v 18], none⟩,
    ⟨.l 77, .p .mv, [.v 17], none⟩,
    ⟨.l 78, .p (.bin .mul), [.l 76, .l 77], none⟩,
    ⟨.l 79, .p (.bin .sub), [.l 75, .l 78], none⟩,
    ⟨.l 80, .p .ixs, [.k (.m (.s [48, 49, 50, 51, 52, 53, 54, 55, 56, 57, 97, 98, 99, 100, 101, 102, 103, 104, 105, 106, 107, 108, 109, 110, 111, 112, 113, 114, 115, 116, 117, 118, 119, 120, 121, 122])), .l 79], none⟩,
    ⟨.l 81, .p (.ixaA 65 1), [.v 12, .l 74], none⟩,
    ⟨.no, .l (.st 1), [.l 81, .l 80], none⟩])
  (.reg [⟨.l 82, .p .mv, [.v 18], none⟩,
    ⟨.v 1, .p .mv, [.l 82], none⟩]))))))
def c123_L1 : C := .loop [2, 18, 28, 30, 34, 68] c123_B1
def c123 : F := ⟨5, [.t 10, .t 11],
  (.seq
  (.reg [⟨.v 10, .p .mv, [.k (.m (.nl 4))], none⟩,
    ⟨.v 11, .p .mv, [.k (.m (.s []))], none⟩])
  (.seq
  (.seq
  (.reg [⟨.l 19, .p .mv, [.v 2], none⟩,
    ⟨.l 20, .p (.bin .lss), [.l 19, .k (.m (.i .i64 2))], none⟩,
    ⟨.l 21, .p .mv, [.l 20], none⟩,
    ⟨.l 22, .p .mv, [.v 2], some (.l 21, false)⟩,
    ⟨.l 23, .p (.bin .eql), [.l 22, .k (.m (.i .i64 10))], some (.l 21, false)⟩,
    ⟨.l 24, .p .pick, [.l 21, .k (.m (.b true)), .l 23], none⟩,
    ⟨.l 25, .p .mv, [.l 24], none⟩,
    ⟨.l 26, .p .mv, [.v 2], some (.l 25, false)⟩,
    ⟨.l 27, .p (.bin .gtr), [.l 26, .k (.m (.i .i64 36))], some (.l 25, false)⟩,
    ⟨.v 28, .p .pick, [.l 25, .k (.m (.b true)), .l 27], none⟩])
  (.ite (.v 28)
    (.reg [⟨.l 29, .p .mv, [], none⟩,
      ⟨.no, .p .mv, [], none⟩])
    .skip))
  (.seq
  (.reg [⟨.v 12, .l (.als 151 1 65 [.m (.i .u8 0), .m (.i .u8 0), .m (.i .u8 0), .m (.i .u8 0), .m (.i .u8 0), .m (.i .u8 0), .m (.i .u8 0), .m (.i .u8 0), .m (.i .u8 0), .m (.i .u8 0), .m (.i .u8 0), .m (.i .u8 0), .m (.i .u8 0), .m (.i .u8 0), .m (.i .u8 0), .m (.i .u8 0), .m (.i .u8 0), .m (.i .u8 0), .m (.i .u8 0), .m (.i .u8 0), .m (.i .u8 0), .m (.i .u8 0), .m (.i .u8 0), .m (.i .u8 0), .m (.i .u8 0), .m (.i .u8 0), .m (.i .u8 0), .m (.i .u8 0), .m (.i .u8 0), .m (.i .u8 0), .m (.i .u8 0), .m (.i .u8 0), .m (.i .u8 0), .m (.i .u8 0), .m (.i .u8 0), .m (.i .u8 0), .m (.i .u8 0), .m (.i .u8 0), .m (.i .u8 0), .m (.i .u8 0), .m (.i .u8 0), .m (.i .u8 0), .m (.i .u8 0), .m (.i .u8 0), .m (.i .u8 0), .m (.i .u8 0), .m (.i .u8 0), .m (.i .u8 0), .m (.i .u8 0), .m (.i .u8 0), .m (.i .u8 0), .m (.i .u8 0), .m (.i .u8 0), .m (.i .u8 0), .m (.i .u8 0), .m (.i .u8 0), .m (.i .u8 0), .m (.i .u8 0), .m (.i .u8 0), .m (.i .u8 0), .m (.i .u8 0), .m (.i .u8 0), .m (.i .u8 0), .m (.i .u8 0), .m (.i .u8 0)]), [], none⟩])
  (.seq
  (.reg [⟨.v 13, .p .mv, [.k (.m (.i .i64 65))], none⟩])
  (.seq
  (.seq
  (.reg [⟨.v 30, .p .mv, [.v 3], none⟩])
  (.ite (.v 30)
    (.reg [⟨.l 31, .p .mv, [.v 1], none⟩,
      ⟨.l 32, .p (.un .neg), [.l 31], none⟩,
      ⟨.v 1, .p .mv, [.l 32], none⟩])
    .skip))
  (.seq
  (.seq
  (.reg [⟨.l 33, .p .mv, [.v 2], none⟩,
    ⟨.v 34, .l (.cal 137), [.l 33], none⟩])
  (.ite (.v 34)
    (.seq
    (.reg [⟨.l 35, .p .mv, [.v 2], none⟩,
      ⟨.l 36, .p (.cv .u64), [.l 35], none⟩,
      ⟨.l 37, .l (.cal 138), [.l 36], none⟩,
      ⟨.l 38, .p (.cv .u64), [.l 37], none⟩,
      ⟨.v 14, .p .mv, [.l 38], none⟩])
    (.seq
    (.reg [⟨.l 39, .p .mv, [.v 2], none⟩,
      ⟨.l 40, .p (.cv .u64), [.l 39], none⟩,
      ⟨.v 15, .p .mv, [.l 40], none⟩])
    (.seq
    (.reg [⟨.l 41, .p .mv, [.v 2], none⟩,
      ⟨.l 42, .p (.cv .u64), [.l 41], none⟩,
      ⟨.l 43, .p (.bin .sub), [.l 42, .k (.m (.i .u64 1))], none⟩,
      ⟨.v 16, .p .mv, [.l 43], none⟩])
    (.seq
    (.blk 0
    c123_L0)
    (.seq
    (.reg [⟨.l 58, .p .mv, [.v 13], none⟩,
      ⟨.l 59, .p (.bin .sub), [.l 58, .k (.m (.i .i64 1))], none⟩,
      ⟨.v 13, .p .mv, [.l 59], none⟩])
    (.reg [⟨.l 60, .p .mv, [.v 13], none⟩,
      ⟨.l 61, .p .mv, [.v 1], none⟩,
      ⟨.l 62, .p .ixs, [.k (.m (.s [48, 49, 50, 51, 52, 53, 54, 55, 56, 57, 97, 98, 99, 100, 101, 102, 103, 104, 105, 106, 107, 108, 109, 110, 111, 112, 113, 114, 115, 116, 117, 118, 119, 120, 121, 122])), .l 61], none⟩,
      ⟨.l 63, .p (.ixaA 65 1), [.v 12, .l 60], none⟩,
      ⟨.no, .l (.st 1), [.l 63, .l 62], none⟩]))))))
    (.seq
    (.reg [⟨.l 64, .p .mv, [.v 2], none⟩,
      ⟨.l 65, .p (.cv .u64), [.l 64], none⟩,
      ⟨.v 17, .p .mv, [.l 65], none⟩])
    (.seq
    (.blk 2
    c123_L1)
    (.seq
    (.reg [⟨.l 83, .p .mv, [.v 13], none⟩,
      ⟨.l 84, .p (.bin .sub), [.l 83, .k (.m (.i .i64 1))], none⟩,
      ⟨.v 13, .p .mv, [.l 84], none⟩])
    (.reg [⟨.l 85, .p .mv, [.v 13], none⟩,
      ⟨.l 86, .p .mv, [.v 1], none⟩,
      ⟨.l 87, .p .ixs, [.k (.m (.s [48, 49, 50, 51, 52, 53, 54, 55, 56, 57, 97, 98, 99, 100, 101, 102, 103, 104, 105, 106, 107, 108, 109, 110, 111, 112, 113, 114, 115, 116, 117, 118, 119, 120, 121, 122])), .l 86], none⟩,
      ⟨.l 88, .p (.ixaA 65 1), [.v 12, .l 85], none⟩,
      ⟨.no, .l (.st 1), [.l 88, .l 87], none⟩]))))))
  (.seq
  (.seq
  (.reg [⟨.v 89, .p .mv, [.v 3], none⟩])
  (.ite (.v 89)
    (.seq
    (.reg [⟨.l 90, .p .mv, [.v 13], none⟩,
      ⟨.l 91, .p (.bin .sub), [.l 90, .k (.m (.i .i64 1))], none⟩,
      ⟨.v 13, .p .mv, [.l 91], none⟩])
    (.reg [⟨.l 92, .p .mv, [.v 13], none⟩,
      ⟨.l 93, .p (.ixaA 65 1), [.v 12, .l 92], none⟩,
      ⟨.no, .l (.st 1), [.l 93, .k (.m (.i .u8 45))], none⟩]))
    .skip))
  (.seq
  (.seq
  (.reg [⟨.v 94, .p .mv, [.v 4], none⟩])
  (.ite (.v 94)
    (.seq
    (.reg [⟨.l 95, .p .mv, [.v 0], none⟩,
      ⟨.l 96, .p .mv, [.v 13], none⟩,
      ⟨.l 97, .r (.slcA 65 1 true false false), [.v 12, .l 96], none⟩,
      ⟨.l 98, .l (.app 5 1 1), [.l 95, .l 97], none⟩,
      ⟨.v 10, .p .mv, [.l 98], none⟩])
    .ret)
    .skip))
  (.seq
  (.reg [⟨.l 99, .p .mv, [.v 13], none⟩,
    ⟨.l 100, .r (.slcA 65 1 true false false), [.v 12, .l 99], none⟩,
    ⟨.l 101, .r .b2s, [.l 100], none⟩,
    ⟨.v 11, .p .mv, [.l 101], none⟩])
  .ret)))))))))⟩

/- strings.splitSeq$1 -/
def c124_B0 : C :=
  (.seq
  (.seq
  (.reg [⟨.l 12, .r (.ld false 1), [.v 2], none⟩,
    ⟨.l 13, .p (.len true), [.l 12], none⟩,
    ⟨.v 14, .p (.bin .gtr), [.l 13, .k (.m (.i .i64 0))], none⟩])
  (.ite (.v 14)
    .skip
    (.ex 0)))
  (.blk 1
  (.seq
  (.reg [⟨.l 16, .r (.ld false 1), [.v 2], none⟩,
    ⟨.l 17, .l (.cal 125), [.l 16], none⟩,
    ⟨.l 15, .p .mv, [.l 17], none⟩,
    ⟨.l 18, .p (.ext 0), [.l 15], none⟩,
    ⟨.l 19, .p (.ext 1), [.l 15], none⟩,
    ⟨.l 5, .p .mv, [.l 18], none⟩,
    ⟨.v 6, .p .mv, [.l 19], none⟩])
  (.seq
  (.seq
  (.reg [⟨.l 20, .p .mv, [.v 0], none⟩,
    ⟨.l 21, .r (.ld false 1), [.v 2], none⟩,
    ⟨.l 22, .p .mv, [.v 6], none⟩,
    ⟨.l 23, .p (.slc 0 false true false), [.l 21, .l 22], none⟩,
    ⟨.l 24, .l .cav, [.l 20, .l 23], none⟩,
    ⟨.v 25, .p (.un .not), [.l 24], none⟩])
  (.ite (.v 25)
    .ret
    .skip))
  (.reg [⟨.l 26, .r (.ld false 1), [.v 2], none⟩,
    ⟨.l 27, .p .mv, [.v 6], none⟩,
    ⟨.l 28, .p (.slc 0 true false false), [.l 26, .l 27], none⟩,
    ⟨.no, .l (.st 1), [.v 2, .l 28], none⟩])))))
def c124_L0 : C := .loop [1, 3, 6, 11, 14, 25] c124_B0
def c124_B1 : C :=
  (.blk 3
  (.seq
  (.reg [⟨.l 29, .r (.ld false 1), [.v 2], none⟩,
    ⟨.l 30, .r (.ld false 1), [.v 1], none⟩,
    ⟨.l 31, .l (.cal 126), [.l 29, .l 30], none⟩,
    ⟨.v 7, .p .mv, [.l 31], none⟩])
  (.seq
  (.seq
  (.reg [⟨.l 32, .p .mv, [.v 7], none⟩,
    ⟨.v 33, .p (.bin .lss), [.l 32, .k (.m (.i .i64 0))], none⟩])
  (.ite (.v 33)
    (.ex 2)
    .skip))
  (.seq
  (.reg [⟨.l 34, .r (.ld false 1), [.v 2], none⟩,
    ⟨.l 35, .p .mv, [.v 7], none⟩,
    ⟨.l 36, .r (.ld false 1), [.v 3], none⟩,
    ⟨.l 37, .p (.bin .add), [.l 35, .l 36], none⟩,
    ⟨.l 38, .p (.slc 0 false true false), [.l 34, .l 37], none⟩,
    ⟨.v 8, .p .mv, [.l 38], none⟩])
  (.seq
  (.seq
  (.reg [⟨.l 39, .p .mv, [.v 0], none⟩,
    ⟨.l 40, .p .mv, [.v 8], none⟩,
    ⟨.l 41, .l .cav, [.l 39, .l 40], none⟩,
    ⟨.v 42, .p (.un .not), [.l 41], none⟩])
  (.ite (.v 42)
    .ret
    .skip))
  (.reg [⟨.l 43, .r (.ld false 1), [.v 2], none⟩,
    ⟨.l 44, .p .mv, [.v 7], none⟩,
    ⟨.l 45, .r (.ld false 1), [.v 1], none⟩,
    ⟨.l 46, .p (.len true), [.l 45], none⟩,
    ⟨.l 47, .p (.bin .add), [.l 44, .l 46], none⟩,
    ⟨.l 48, .p (.slc 0 true false false), [.l 43, .l 47], none⟩,
    ⟨.no, .l (.st 1), [.v 2, .l 48], none⟩]))))))
def c124_L1 : C := .loop [7, 8, 11, 33, 42] c124_B1
def c124 : F := ⟨4, [],
  (.seq
  (.seq
  (.reg [⟨.l 9, .r (.ld false 1), [.v 1], none⟩,
    ⟨.l 10, .p (.len true), [.l 9], none⟩,
    ⟨.v 11, .p (.bin .eql), [.l 10, .k (.m (.i .i64 0))], none⟩])
  (.ite (.v 11)
    (.seq
    (.blk 0
    c124_L0)
    .ret)
    .skip))
  (.seq
  (.blk 2
  c124_L1)
  (.reg [⟨.l 49, .p .mv, [.v 0], none⟩,
    ⟨.l 50, .r (.ld false 1), [.v 2], none⟩,
    ⟨.l 51, .l .cav, [.l 49, .l 50], none⟩])))⟩

/- unicode/utf8.DecodeRuneInString -/
def c125 : F := ⟨1, [.t 2, .t 3],
  (.seq
  (.reg [⟨.v 2, .p .mv, [.k (.m (.i .i32 0))], none⟩,
    ⟨.v 3, .p .mv, [.k (.m (.i .i64 0))], none⟩])
  (.seq
  (.seq
  (.reg [⟨.l 4, .p .mv, [.v 0], none⟩,
    ⟨.l 5, .p (.bin .neq), [.l 4, .k (.m (.s []))], none⟩,
    ⟨.l 6, .p .mv, [.l 5], none⟩,
    ⟨.l 7, .p .mv, [.v 0], some (.l 6, true)⟩,
    ⟨.l 8, .p .ixs, [.l 7, .k (.m (.i .i64 0))], some (.l 6, true)⟩,
    ⟨.l 9, .p (.bin .lss), [.l 8, .k (.m (.i .u8 128))], some (.l 6, true)⟩,
    ⟨.v 10, .p .pick, [.l 6, .l 9, .k (.m (.b false))], none⟩])
  (.ite (.v 10)
    (.seq
    (.reg [⟨.l 11, .p .mv, [.v 0], none⟩,
      ⟨.l 12, .p .ixs, [.l 11, .k (.m (.i .i64 0))], none⟩,
      ⟨.l 13, .p (.cv .i32), [.l 12], none⟩,
      ⟨.v 2, .p .mv, [.l 13], none⟩,
      ⟨.v 3, .p .mv, [.k (.m (.i .i64 1))], none⟩])
    .ret)
    (.reg [⟨.l 15, .p .mv, [.v 0], none⟩,
      ⟨.l 16, .l (.cal 139), [.l 15], none⟩,
      ⟨.l 14, .p .mv, [.l 16], none⟩,
      ⟨.l 17, .p (.ext 0), [.l 14], none⟩,
      ⟨.l 18, .p (.ext 1), [.l 14], none⟩,
      ⟨.v 2, .p .mv, [.l 17], none⟩,
      ⟨.v 3, .p .mv, [.l 18], none⟩])))
  .ret))⟩

/- strings.Index -/
def c126 : F := ⟨2, [.t 4],
  (.seq
  (.reg [⟨.v 4, .p .mv, [.k (.m (.i .i64 0))], none⟩])
  (.seq
  (.reg [⟨.l 5, .p .mv, [.v 0], none⟩,
    ⟨.l 6, .p .mv, [.v 1], none⟩,
    ⟨.l 7, .l (.cal 140), [.l 5, .l 6], none⟩,
    ⟨.v 4, .p .mv, [.l 7], none⟩])
  .ret))⟩

/- internal/strconv.ParseInt -/
def c127 : F := ⟨3, [.t 6, .t 7],
  (.seq
  (.reg [⟨.v 6, .p .mv, [.k (.m (.i .i64 0))], none⟩,
    ⟨.v 7, .p .mv, [.k (.m (.nl 3))], none⟩])
  (.seq
  (.seq
  (.reg [⟨.l 12, .p .mv, [.v 0], none⟩,
    ⟨.v 13, .p (.bin .eql), [.l 12, .k (.m (.s []))], none⟩])
  (.ite (.v 13)
    (.seq
    (.reg [⟨.l 14, .p .mv, [], none⟩,
      ⟨.v 6, .p .mv, [.k (.m (.i .i64 0))], none⟩,
      ⟨.v 7, .p .mv, [.l 14], none⟩])
    .ret)
    .skip))
  (.seq
  (.reg [⟨.v 8, .p .mv, [.k (.m (.b false))], none⟩])
  (.seq
  (.seq
  (.reg [⟨.l 15, .p .mv, [.v 0], none⟩,
    ⟨.v 16, .p .ixs, [.l 15, .k (.m (.i .i64 0))], none⟩])
  (.blk 0
  (.seq
  (.reg [⟨.l 18, .p (.bin .eql), [.v 16, .k (.m (.i .u8 43))], none⟩,
    ⟨.v 17, .p .mv, [.l 18], none⟩])
  (.ite (.v 17)
    (.reg [⟨.l 19, .p .mv, [.v 0], none⟩,
      ⟨.l 20, .p (.slc 0 true false false), [.l 19, .k (.m (.i .i64 1))], none⟩,
      ⟨.v 0, .p .mv, [.l 20], none⟩])
    (.seq
    (.reg [⟨.l 22, .p (.bin .eql), [.v 16, .k (.m (.i .u8 45))], none⟩,
      ⟨.v 21, .p .mv, [.l 22], none⟩])
    (.ite (.v 21)
      (.seq
      (.reg [⟨.l 23, .p .mv, [.v 0], none⟩,
        ⟨.l 24, .p (.slc 0 true false false), [.l 23, .k (.m (.i .i64 1))], none⟩,
        ⟨.v 0, .p .mv, [.l 24], none⟩])
      (.reg [⟨.v 8, .p .mv, [.k (.m (.b true))], none⟩]))
      .skip))))))
  (.seq
  (.reg [⟨.v 9, .p .mv, [.k (.m (.i .u64 0))], none⟩])
  (.seq
  (.reg [⟨.l 26, .p .mv, [.v 0], none⟩,
    ⟨.l 27, .p .mv, [.v 1], none⟩,
    ⟨.l 28, .p .mv, [.v 2], none⟩,
    ⟨.l 29, .l (.cal 141), [.l 26, .l 27, .l 28], none⟩,
    ⟨.l 25, .p .mv, [.l 29], none⟩,
    ⟨.l 30, .p (.ext 0), [.l 25], none⟩,
    ⟨.l 31, .p (.ext 1), [.l 25], none⟩,
    ⟨.v 9, .p .mv, [.l 30], none⟩,
    ⟨.v 7, .p .mv, [.l 31], none⟩])
  (.seq
  (.seq
  (.reg [⟨.l 32, .p .mv, [.v 7], none⟩,
    ⟨.l 33, .p (.eqn true 3), [.l 32], none⟩,
    ⟨.l 34, .p .mv, [.l 33], none⟩,
    ⟨.l 35, .p .mv, [.v 7], some (.l 34, true)⟩,
    ⟨.l 36, .p .mv, [], some (.l 34, true)⟩,
    ⟨.l 37, .p .mv, [], some (.l 34, true)⟩,
    ⟨.v 38, .p .pick, [.l 34, .l 37, .k (.m (.b false))], none⟩])
  (.ite (.v 38)
    (.seq
    (.reg [⟨.l 39, .p .mv, [.v 7], none⟩,
      ⟨.v 6, .p .mv, [.k (.m (.i .i64 0))], none⟩,
      ⟨.v 7, .p .mv, [.l 39], none⟩])
    .ret)
    .skip))
  (.seq
  (.seq
  (.reg [⟨.l 40, .p .mv, [.v 2], none⟩,
    ⟨.v 41, .p (.bin .eql), [.l 40, .k (.m (.i .i64 0))], none⟩])
  (.ite (.v 41)
    (.reg [⟨.v 2, .p .mv, [.k (.m (.i .i64 64))], none⟩])
    .skip))
  (.seq
  (.reg [⟨.l 42, .p .mv, [.v 2], none⟩,
    ⟨.l 43, .p (.bin .sub), [.l 42, .k (.m (.i .i64 1))], none⟩,
    ⟨.l 44, .p (.cv .u64), [.l 43], none⟩,
    ⟨.l 45, .p (.bin .shl), [.k (.m (.i .u64 1)), .l 44], none⟩,
    ⟨.v 10, .p .mv, [.l 45], none⟩])
  (.seq
  (.seq
  (.reg [⟨.l 46, .p .mv, [.v 8], none⟩,
    ⟨.l 47, .p (.un .not), [.l 46], none⟩,
    ⟨.l 48, .p .mv, [.l 47], none⟩,
    ⟨.l 49, .p .mv, [.v 9], some (.l 48, true)⟩,
    ⟨.l 50, .p .mv, [.v 10], some (.l 48, true)⟩,
    ⟨.l 51, .p (.bin .geq), [.l 49, .l 50], some (.l 48, true)⟩,
    ⟨.v 52, .p .pick, [.l 48, .l 51, .k (.m (.b false))], none⟩])
  (.ite (.v 52)
    (.seq
    (.reg [⟨.l 53, .p .mv, [.v 10], none⟩,
      ⟨.l 54, .p (.bin .sub), [.l 53, .k (.m (.i .u64 1))], none⟩,
      ⟨.l 55, .p (.cv .i64), [.l 54], none⟩,
      ⟨.l 56, .p .mv, [], none⟩,
      ⟨.v 6, .p .mv, [.l 55], none⟩,
      ⟨.v 7, .p .mv, [.l 56], none⟩])
    .ret)
    .skip))
  (.seq
  (.seq
  (.reg [⟨.l 57, .p .mv, [.v 8], none⟩,
    ⟨.l 58, .p .mv, [.l 57], none⟩,
    ⟨.l 59, .p .mv, [.v 9], some (.l 58, true)⟩,
    ⟨.l 60, .p .mv, [.v 10], some (.l 58, true)⟩,
    ⟨.l 61, .p (.bin .gtr), [.l 59, .l 60], some (.l 58, true)⟩,
    ⟨.v 62, .p .pick, [.l 58, .l 61, .k (.m (.b false))], none⟩])
  (.ite (.v 62)
    (.seq
    (.reg [⟨.l 63, .p .mv, [.v 10], none⟩,
      ⟨.l 64, .p (.cv .i64), [.l 63], none⟩,
      ⟨.l 65, .p (.un .neg), [.l 64], none⟩,
      ⟨.l 66, .p .mv, [], none⟩,
      ⟨.v 6, .p .mv, [.l 65], none⟩,
      ⟨.v 7, .p .mv, [.l 66], none⟩])
    .ret)
    .skip))
  (.seq
  (.reg [⟨.l 67, .p .mv, [.v 9], none⟩,
    ⟨.l 68, .p (.cv .i64), [.l 67], none⟩,
    ⟨.v 11, .p .mv, [.l 68], none⟩])
  (.seq
  (.seq
  (.reg [⟨.v 69, .p .mv, [.v 8], none⟩])
  (.ite (.v 69)
    (.reg [⟨.l 70, .p .mv, [.v 11], none⟩,
      ⟨.l 71, .p (.un .neg), [.l 70], none⟩,
      ⟨.v 11, .p .mv, [.l 71], none⟩])
    .skip))
  (.seq
  (.reg [⟨.l 72, .p .mv, [.v 11], none⟩,
    ⟨.v 6, .p .mv, [.l 72], none⟩,
    ⟨.v 7, .p .mv, [.k (.m (.nl 3))], none⟩])
  .ret))))))))))))))⟩

/- strconv.syntaxError -/
def c128 : F := ⟨2, [.t 4],
  (.seq
  (.reg [⟨.v 4, .p .mv, [.k (.m (.nl 0))], none⟩])
  (.seq
  (.reg [⟨.l 5, .p .mv, [.v 0], none⟩,
    ⟨.l 6, .p .mv, [.v 1], none⟩,
    ⟨.l 7, .l (.cal 142), [.l 6], none⟩,
    ⟨.l 8, .p .mv, [], none⟩,
    ⟨.l 9, .p (.build [.m (.s []), .m (.s []), .m (.nl 3)] [(0, 1), (1, 1), (2, 1)]), [.l 5, .l 7, .l 8], none⟩,
    ⟨.v 10, .l (.bxs 156 3 1), [.l 9], none⟩,
    ⟨.v 4, .p .mv, [.v 10], none⟩])
  .ret))⟩

/- strconv.rangeError -/
def c129 : F := ⟨2, [.t 4],
  (.seq
  (.reg [⟨.v 4, .p .mv, [.k (.m (.nl 0))], none⟩])
  (.seq
  (.reg [⟨.l 5, .p .mv, [.v 0], none⟩,
    ⟨.l 6, .p .mv, [.v 1], none⟩,
    ⟨.l 7, .l (.cal 142), [.l 6], none⟩,
    ⟨.l 8, .p .mv, [], none⟩,
    ⟨.l 9, .p (.build [.m (.s []), .m (.s []), .m (.nl 3)] [(0, 1), (1, 1), (2, 1)]), [.l 5, .l 7, .l 8], none⟩,
    ⟨.v 10, .l (.bxs 156 3 1), [.l 9], none⟩,
    ⟨.v 4, .p .mv, [.v 10], none⟩])
  .ret))⟩

/- strconv.baseError -/
def c130 : F := ⟨3, [.t 6],
  (.seq
  (.reg [⟨.v 6, .p .mv, [.k (.m (.nl 0))], none⟩])
  (.seq
  (.reg [⟨.l 7, .p .mv, [.v 0], none⟩,
    ⟨.l 8, .p .mv, [.v 1], none⟩,
    ⟨.l 9, .l (.cal 142), [.l 8], none⟩,
    ⟨.l 10, .p .mv, [.v 2], none⟩,
    ⟨.l 11, .l (.cal 51), [.l 10], none⟩,
    ⟨.l 12, .p (.bin .add), [.k (.m (.s [105, 110, 118, 97, 108, 105, 100, 32, 98, 97, 115, 101, 32])), .l 11], none⟩,
    ⟨.l 13, .l (.cal 143), [.l 12], none⟩,
    ⟨.l 14, .p (.build [.m (.s []), .m (.s []), .m (.nl 3)] [(0, 1), (1, 1), (2, 1)]), [.l 7, .l 9, .l 13], none⟩,
    ⟨.v 15, .l (.bxs 156 3 1), [.l 14], none⟩,
    ⟨.v 6, .p .mv, [.v 15], none⟩])
  .ret))⟩

/- strconv.bitSizeError -/
def c131 : F := ⟨3, [.t 6],
  (.seq
  (.reg [⟨.v 6, .p .mv, [.k (.m (.nl 0))], none⟩])
  (.seq
  (.reg [⟨.l 7, .p .mv, [.v 0], none⟩,
    ⟨.l 8, .p .mv, [.v 1], none⟩,
    ⟨.l 9, .l (.cal 142), [.l 8], none⟩,
    ⟨.l 10, .p .mv, [.v 2], none⟩,
    ⟨.l 11, .l (.cal 51), [.l 10], none⟩,
    ⟨.l 12, .p (.bin .add), [.k (.m (.s [105, 110, 118, 97, 108, 105, 100, 32, 98, 105, 116, 32, 115, 105, 122, 101, 32])), .l 11], none⟩,
    ⟨.l 13, .l (.cal 143), [.l 12], none⟩,
    ⟨.l 14, .p (.build [.m (.s []), .m (.s []), .m (.nl 3)] [(0, 1), (1, 1), (2, 1)]), [.l 7, .l 9, .l 13], none⟩,
    ⟨.v 15, .l (.bxs 156 3 1), [.l 14], none⟩,
    ⟨.v 6, .p .mv, [.v 15], none⟩])
  .ret))⟩

/- slices.order2CmpFunc[int] -/
def c132 : F := ⟨5, [.t 10, .t 11],
  (.seq
  (.reg [⟨.v 10, .p .mv, [.k (.m (.i .i64 0))], none⟩,
    ⟨.v 11, .p .mv, [.k (.m (.i .i64 0))], none⟩])
  (.seq
  (.seq
  (.reg [⟨.l 12, .p .mv, [.v 4], none⟩,
    ⟨.l 13, .p .mv, [.v 0], none⟩,
    ⟨.l 14, .p .mv, [.v 2], none⟩,
    ⟨.l 15, .p (.ixa 1), [.l 13, .l 14], none⟩,
    ⟨.l 16, .r (.ld false 1), [.l 15], none⟩,
    ⟨.l 17, .p .mv, [.v 0], none⟩,
    ⟨.l 18, .p .mv, [.v 1], none⟩,
    ⟨.l 19, .p (.ixa 1), [.l 17, .l 18], none⟩,
    ⟨.l 20, .r (.ld false 1), [.l 19], none⟩,
    ⟨.l 21, .l .cav, [.l 12, .l 16, .l 20], none⟩,
    ⟨.v 22, .p (.bin .lss), [.l 21, .k (.m (.i .i64 0))], none⟩])
  (.ite (.v 22)
    (.seq
    (.reg [⟨.l 23, .p .mv, [.v 3], none⟩,
      ⟨.l 24, .p .nck, [.l 23], none⟩,
      ⟨.l 25, .r (.ld false 1), [.l 24], none⟩,
      ⟨.l 26, .p (.bin .add), [.l 25, .k (.m (.i .i64 1))], none⟩,
      ⟨.l 27, .p .nck, [.l 23], none⟩,
      ⟨.no, .l (.st 1), [.l 27, .l 26], none⟩])
    (.seq
    (.reg [⟨.l 28, .p .mv, [.v 2], none⟩,
      ⟨.l 29, .p .mv, [.v 1], none⟩,
      ⟨.v 10, .p .mv, [.l 28], none⟩,
      ⟨.v 11, .p .mv, [.l 29], none⟩])
    .ret))
    .skip))
  (.seq
  (.reg [⟨.l 30, .p .mv, [.v 1], none⟩,
    ⟨.l 31, .p .mv, [.v 2], none⟩,
    ⟨.v 10, .p .mv, [.l 30], none⟩,
    ⟨.v 11, .p .mv, [.l 31], none⟩])
  .ret)))⟩

/- slices.order2CmpFunc[[]int] -/
def c133 : F := ⟨5, [.t 10, .t 11],
  (.seq
  (.reg [⟨.v 10, .p .mv, [.k (.m (.i .i64 0))], none⟩,
    ⟨.v 11, .p .mv, [.k (.m (.i .i64 0))], none⟩])
  (.seq
  (.seq
  (.reg [⟨.l 12, .p .mv, [.v 4], none⟩,
    ⟨.l 13, .p .mv, [.v 0], none⟩,
    ⟨.l 14, .p .mv, [.v 2], none⟩,
    ⟨.l 15, .p (.ixa 1), [.l 13, .l 14], none⟩,
    ⟨.l 16, .r (.ld false 1), [.l 15], none⟩,
    ⟨.l 17, .p .mv, [.v 0], none⟩,
    ⟨.l 18, .p .mv, [.v 1], none⟩,
    ⟨.l 19, .p (.ixa 1), [.l 17, .l 18], none⟩,
    ⟨.l 20, .r (.ld false 1), [.l 19], none⟩,
    ⟨.l 21, .l .cav, [.l 12, .l 16, .l 20], none⟩,
    ⟨.v 22, .p (.bin .lss), [.l 21, .k (.m (.i .i64 0))], none⟩])
  (.ite (.v 22)
    (.seq
    (.reg [⟨.l 23, .p .mv, [.v 3], none⟩,
      ⟨.l 24, .p .nck, [.l 23], none⟩,
      ⟨.l 25, .r (.ld false 1), [.l 24], none⟩,
      ⟨.l 26, .p (.bin .add), [.l 25, .k (.m (.i .i64 1))], none⟩,
      ⟨.l 27, .p .nck, [.l 23], none⟩,
      ⟨.no, .l (.st 1), [.l 27, .l 26], none⟩])
    (.seq
    (.reg [⟨.l 28, .p .mv, [.v 2], none⟩,
      ⟨.l 29, .p .mv, [.v 1], none⟩,
      ⟨.v 10, .p .mv, [.l 28], none⟩,
      ⟨.v 11, .p .mv, [.l 29], none⟩])
    .ret))
    .skip))
  (.seq
  (.reg [⟨.l 30, .p .mv, [.v 1], none⟩,
    ⟨.l 31, .p .mv, [.v 2], none⟩,
    ⟨.v 10, .p .mv, [.l 30], none⟩,
    ⟨.v 11, .p .mv, [.l 31], none⟩])
  .ret)))⟩

/- slices.order2Ordered[int] -/
def c134 : F := ⟨4, [.t 8, .t 9],
  (.seq
  (.reg [⟨.v 8, .p .mv, [.k (.m (.i .i64 0))], none⟩,
    ⟨.v 9, .p .mv, [.k (.m (.i .i64 0))], none⟩])
  (.seq
  (.seq
  (.reg [⟨.l 10, .p .mv, [.v 0], none⟩,
    ⟨.l 11, .p .mv, [.v 2], none⟩,
    ⟨.l 12, .p (.ixa 1), [.l 10, .l 11], none⟩,
    ⟨.l 13, .r (.ld false 1), [.l 12], none⟩,
    ⟨.l 14, .p .mv, [.v 0], none⟩,
    ⟨.l 15, .p .mv, [.v 1], none⟩,
    ⟨.l 16, .p (.ixa 1), [.l 14, .l 15], none⟩,
    ⟨.l 17, .r (.ld false 1), [.l 16], none⟩,
    ⟨.v 18, .l (.cal 99), [.l 13, .l 17], none⟩])
  (.ite (.v 18)
    (.seq
    (.reg [⟨.l 19, .p .mv, [.v 3], none⟩,
      ⟨.l 20, .p .nck, [.l 19], none⟩,
      ⟨.l 21, .r (.ld false 1), [.l 20], none⟩,
      ⟨.l 22, .p (.bin .add), [.l 21, .k (.m (.i .i64 1))], none⟩,
      ⟨.l 23, .p .nck, [.l 19], none⟩,
      ⟨.no, .l (.st 1), [.l 23, .l 22], none⟩])
    (.seq
    (.reg [⟨.l 24, .p .mv, [.v 2], none⟩,
      ⟨.l 25, .p .mv, [.v 1], none⟩,
      ⟨.v 8, .p .mv, [.l 24], none⟩,
      ⟨.v 9, .p .mv, [.l 25], none⟩])
    .ret))
    .skip))
  (.seq
  (.reg [⟨.l 26, .p .mv, [.v 1], none⟩,
    ⟨.l 27, .p .mv, [.v 2], none⟩,
    ⟨.v 8, .p .mv, [.l 26], none⟩,
    ⟨.v 9, .p .mv, [.l 27], none⟩])
  .ret)))⟩

/- internal/strconv.log10Pow2 -/
def c135 : F := ⟨1, [.t 2],
  (.seq
  (.reg [⟨.v 2, .p .mv, [.k (.m (.i .i64 0))], none⟩])
  (.seq
  (.reg [⟨.l 3, .p .mv, [.v 0], none⟩,
    ⟨.l 4, .p (.bin .mul), [.l 3, .k (.m (.i .i64 78913))], none⟩,
    ⟨.l 5, .p (.bin .shr), [.l 4, .k (.m (.i .u64 18))], none⟩,
    ⟨.v 2, .p .mv, [.l 5], none⟩])
  .ret))⟩

/- internal/strconv.bool2[int] -/
def c136 : F := ⟨1, [.t 2],
  (.seq
  (.reg [⟨.v 2, .p .mv, [.k (.m (.i .i64 0))], none⟩])
  (.seq
  (.seq
  (.reg [⟨.v 3, .p .mv, [.v 0], none⟩])
  (.ite (.v 3)
    (.seq
    (.reg [⟨.v 2, .p .mv, [.k (.m (.i .i64 1))], none⟩])
    .ret)
    .skip))
  (.seq
  (.reg [⟨.v 2, .p .mv, [.k (.m (.i .i64 0))], none⟩])
  .ret)))⟩

/- internal/strconv.isPowerOfTwo -/
def c137 : F := ⟨1, [.t 2],
  (.seq
  (.reg [⟨.v 2, .p .mv, [.k (.m (.b false))], none⟩])
  (.seq
  (.reg [⟨.l 3, .p .mv, [.v 0], none⟩,
    ⟨.l 4, .p .mv, [.v 0], none⟩,
    ⟨.l 5, .p (.bin .sub), [.l 4, .k (.m (.i .i64 1))], none⟩,
    ⟨.l 6, .p (.bin .and), [.l 3, .l 5], none⟩,
    ⟨.l 7, .p (.bin .eql), [.l 6, .k (.m (.i .i64 0))], none⟩,
    ⟨.v 2, .p .mv, [.l 7], none⟩])
  .ret))⟩

/- math/bits.TrailingZeros -/
def c138 : F := ⟨1, [.t 2],
  (.seq
  (.reg [⟨.v 2, .p .mv, [.k (.m (.i .i64 0))], none⟩])
  (.seq
  (.ite (.k (.m (.b false)))
    (.seq
    (.reg [⟨.l 3, .p .mv, [.v 0], none⟩,
      ⟨.l 4, .p (.cv .u32), [.l 3], none⟩,
      ⟨.l 5, .l (.cal 144), [.l 4], none⟩,
      ⟨.v 2, .p .mv, [.l 5], none⟩])
    .ret)
    .skip)
  (.seq
  (.reg [⟨.l 6, .p .mv, [.v 0], none⟩,
    ⟨.l 7, .l (.cal 145), [.l 6], none⟩,
    ⟨.v 2, .p .mv, [.l 7], none⟩])
  .ret)))⟩

/- unicode/utf8.decodeRuneInStringSlow -/
def c139 : F := ⟨1, [.t 2, .t 3],
  (.seq
  (.reg [⟨.v 2, .p .mv, [.k (.m (.i .i32 0))], none⟩,
    ⟨.v 3, .p .mv, [.k (.m (.i .i64 0))], none⟩])
  (.seq
  (.reg [⟨.l 13, .p .mv, [.v 0], none⟩,
    ⟨.l 14, .p (.len true), [.l 13], none⟩,
    ⟨.v 4, .p .mv, [.l 14], none⟩])
  (.seq
  (.seq
  (.reg [⟨.l 15, .p .mv, [.v 4], none⟩,
    ⟨.v 16, .p (.bin .lss), [.l 15, .k (.m (.i .i64 1))], none⟩])
  (.ite (.v 16)
    (.seq
    (.reg [⟨.v 2, .p .mv, [.k (.m (.i .i32 65533))], none⟩,
      ⟨.v 3, .p .mv, [.k (.m (.i .i64 0))], none⟩])
    .ret)
    .skip))
  (.seq
  (.reg [⟨.l 17, .p .mv, [.v 0], none⟩,
    ⟨.l 18, .p .ixs, [.l 17, .k (.m (.i .i64 0))], none⟩,
    ⟨.v 5, .p .mv, [.l 18], none⟩])
  (.seq
  (.reg [⟨.l 19, .p .mv, [.v 5], none⟩,
    ⟨.l 20, .p .mv, [], none⟩,
    ⟨.l 21, .r (.ld false 1), [.l 20], none⟩,
    ⟨.v 6, .p .mv, [.l 21], none⟩])
  (.seq
  (.seq
  (.reg [⟨.l 22, .p .mv, [.v 6], none⟩,
    ⟨.v 23, .p (.bin .geq), [.l 22, .k (.m (.i .u8 240))], none⟩])
  (.ite (.v 23)
    (.seq
    (.reg [⟨.l 24, .p .mv, [.v 6], none⟩,
      ⟨.l 25, .p (.cv .i32), [.l 24], none⟩,
      ⟨.l 26, .p (.bin .shl), [.l 25, .k (.m (.i .u64 31))], none⟩,
      ⟨.l 27, .p (.bin .shr), [.l 26, .k (.m (.i .u64 31))], none⟩,
      ⟨.v 7, .p .mv, [.l 27], none⟩])
    (.seq
    (.reg [⟨.l 28, .p .mv, [.v 0], none⟩,
      ⟨.l 29, .p .ixs, [.l 28, .k (.m (.i .i64 0))], none⟩,
      ⟨.l 30, .p (.cv .i32), [.l 29], none⟩,
      ⟨.l 31, .p .mv, [.v 7], none⟩,
      ⟨.l 32, .p (.bin .andNot), [.l 30, .l 31], none⟩,
      ⟨.l 33, .p .mv, [.v 7], none⟩,
      ⟨.l 34, .p (.bin .and), [.k (.m (.i .i32 65533)), .l 33], none⟩,
      ⟨.l 35, .p (.bin .or), [.l 32, .l 34], none⟩,
      ⟨.v 2, .p .mv, [.l 35], none⟩,
      ⟨.v 3, .p .mv, [.k (.m (.i .i64 1))], none⟩])
    .ret))
    .skip))
  (.seq
  (.reg [⟨.l 36, .p .mv, [.v 6], none⟩,
    ⟨.l 37, .p (.bin .and), [.l 36, .k (.m (.i .u8 7))], none⟩,
    ⟨.l 38, .p (.cv .i64), [.l 37], none⟩,
    ⟨.v 8, .p .mv, [.l 38], none⟩])
  (.seq
  (.reg [⟨.l 39, .p .mv, [.v 6], none⟩,
    ⟨.l 40, .p (.bin .shr), [.l 39, .k (.m (.i .u64 4))], none⟩,
    ⟨.l 41, .p .mv, [], none⟩,
    ⟨.l 42, .r (.ld true 2), [.l 41], none⟩,
    ⟨.v 9, .l (.alp 9 [.m (.i .u8 0), .m (.i .u8 0)]), [], none⟩,
    ⟨.no, .l (.st 2), [.v 9, .l 42], none⟩])
  (.seq
  (.seq
  (.reg [⟨.l 43, .p .mv, [.v 4], none⟩,
    ⟨.l 44, .p .mv, [.v 8], none⟩,
    ⟨.v 45, .p (.bin .lss), [.l 43, .l 44], none⟩])
  (.ite (.v 45)
    (.seq
    (.reg [⟨.v 2, .p .mv, [.k (.m (.i .i32 65533))], none⟩,
      ⟨.v 3, .p .mv, [.k (.m (.i .i64 1))], none⟩])
    .ret)
    .skip))
  (.seq
  (.reg [⟨.l 46, .p .mv, [.v 0], none⟩,
    ⟨.l 47, .p .ixs, [.l 46, .k (.m (.i .i64 1))], none⟩,
    ⟨.v 10, .p .mv, [.l 47], none⟩])
  (.seq
  (.seq
  (.reg [⟨.l 48, .p .mv, [.v 10], none⟩,
    ⟨.l 49, .p (.fad 0), [.v 9], none⟩,
    ⟨.l 50, .r (.ld false 1), [.l 49], none⟩,
    ⟨.l 51, .p (.bin .lss), [.l 48, .l 50], none⟩,
    ⟨.l 52, .p .mv, [.l 51], none⟩,
    ⟨.l 53, .p (.fad 1), [.v 9], some (.l 52, false)⟩,
    ⟨.l 54, .r (.ld false 1), [.l 53], some (.l 52, false)⟩,
    ⟨.l 55, .p .mv, [.v 10], some (.l 52, false)⟩,
    ⟨.l 56, .p (.bin .lss), [.l 54, .l 55], some (.l 52, false)⟩,
    ⟨.v 57, .p .pick, [.l 52, .k (.m (.b true)), .l 56], none⟩])
  (.ite (.v 57)
    (.seq
    (.reg [⟨.v 2, .p .mv, [.k (.m (.i .i32 65533))], none⟩,
      ⟨.v 3, .p .mv, [.k (.m (.i .i64 1))], none⟩])
    .ret)
    .skip))
  (.seq
  (.seq
  (.reg [⟨.l 58, .p .mv, [.v 8], none⟩,
    ⟨.v 59, .p (.bin .leq), [.l 58, .k (.m (.i .i64 2))], none⟩])
  (.ite (.v 59)
    (.seq
    (.reg [⟨.l 60, .p .mv, [.v 5], none⟩,
      ⟨.l 61, .p (.bin .and), [.l 60, .k (.m (.i .u8 31))], none⟩,
      ⟨.l 62, .p (.cv .i32), [.l 61], none⟩,
      ⟨.l 63, .p (.bin .shl), [.l 62, .k (.m (.i .u64 6))], none⟩,
      ⟨.l 64, .p .mv, [.v 10], none⟩,
      ⟨.l 65, .p (.bin .and), [.l 64, .k (.m (.i .u8 63))], none⟩,
      ⟨.l 66, .p (.cv .i32), [.l 65], none⟩,
      ⟨.l 67, .p (.bin .or), [.l 63, .l 66], none⟩,
      ⟨.v 2, .p .mv, [.l 67], none⟩,
      ⟨.v 3, .p .mv, [.k (.m (.i .i64 2))], none⟩])
    .ret)
    .skip))
  (.seq
  (.reg [⟨.l 68, .p .mv, [.v 0], none⟩,
    ⟨.l 69, .p .ixs, [.l 68, .k (.m (.i .i64 2))], none⟩,
    ⟨.v 11, .p .mv, [.l 69], none⟩])
  (.seq
  (.seq
  (.reg [⟨.l 70, .p .mv, [.v 11], none⟩,
    ⟨.l 71, .p (.bin .lss), [.l 70, .k (.m (.i .u8 128))], none⟩,
    ⟨.l 72, .p .mv, [.l 71], none⟩,
    ⟨.l 73, .p .mv, [.v 11], some (.l 72, false)⟩,
    ⟨.l 74, .p (.bin .lss), [.k (.m (.i .u8 191)), .l 73], some (.l 72, false)⟩,
    ⟨.v 75, .p .pick, [.l 72, .k (.m (.b true)), .l 74], none⟩])
  (.ite (.v 75)
    (.seq
    (.reg [⟨.v 2, .p .mv, [.k (.m (.i .i32 65533))], none⟩,
      ⟨.v 3, .p .mv, [.k (.m (.i .i64 1))], none⟩])
    .ret)
    .skip))
  (.seq
  (.seq
  (.reg [⟨.l 76, .p .mv, [.v 8], none⟩,
    ⟨.v 77, .p (.bin .leq), [.l 76, .k (.m (.i .i64 3))], none⟩])
  (.ite (.v 77)
    (.seq
    (.reg [⟨.l 78, .p .mv, [.v 5], none⟩,
      ⟨.l 79, .p (.bin .and), [.l 78, .k (.m (.i .u8 15))], none⟩,
      ⟨.l 80, .p (.cv .i32), [.l 79], none⟩,
      ⟨.l 81, .p (.bin .shl), [.l 80, .k (.m (.i .u64 12))], none⟩,
      ⟨.l 82, .p .mv, [.v 10], none⟩,
      ⟨.l 83, .p (.bin .and), [.l 82, .k (.m (.i .u8 63))], none⟩,
      ⟨.l 84, .p (.cv .i32), [.l 83], none⟩,
      ⟨.l 85, .p (.bin .shl), [.l 84, .k (.m (.i .u64 6))], none⟩,
      ⟨.l 86, .p (.bin .or), [.l 81, .l 85], none⟩,
      ⟨.l 87, .p .mv, [.v 11], none⟩,
      ⟨.l 88, .p (.bin .and), [.l 87, .k (.m (.i .u8 63))], none⟩,
      ⟨.l 89, .p (.cv .i32), [.l 88], none⟩,
      ⟨.l 90, .p (.bin .or), [.l 86, .l 89], none⟩,
      ⟨.v 2, .p .mv, [.l 90], none⟩,
      ⟨.v 3, .p .mv, [.k (.m (.i .i64 3))], none⟩])
    .ret)
    .skip))
  (.seq
  (.reg [⟨.l 91, .p .mv, [.v 0], none⟩,
    ⟨.l 92, .p .ixs, [.l 91, .k (.m (.i .i64 3))], none⟩,
    ⟨.v 12, .p .mv, [.l 92], none⟩])
  (.seq
  (.seq
  (.reg [⟨.l 93, .p .mv, [.v 12], none⟩,
    ⟨.l 94, .p (.bin .lss), [.l 93, .k (.m (.i .u8 128))], none⟩,
    ⟨.l 95, .p .mv, [.l 94], none⟩,
    ⟨.l 96, .p .mv, [.v 12], some (.l 95, false)⟩,
    ⟨.l 97, .p (.bin .lss), [.k (.m (.i .u8 191)), .l 96], some (.l 95, false)⟩,
    ⟨.v 98, .p .pick, [.l 95, .k (.m (.b true)), .l 97], none⟩])
  (.ite (.v 98)
    (.seq
    (.reg [⟨.v 2, .p .mv, [.k (.m (.i .i32 65533))], none⟩,
      ⟨.v 3, .p .mv, [.k (.m (.i .i64 1))], none⟩])
    .ret)
    .skip))
  (.seq
  (.reg [⟨.l 99, .p .mv, [.v 5], none⟩,
    ⟨.l 100, .p (.bin .and), [.l 99, .k (.m (.i .u8 7))], none⟩,
    ⟨.l 101, .p (.cv .i32), [.l 100], none⟩,
    ⟨.l 102, .p (.bin .shl), [.l 101, .k (.m (.i .u64 18))], none⟩,
    ⟨.l 103, .p .mv, [.v 10], none⟩,
    ⟨.l 104, .p (.bin .and), [.l 103, .k (.m (.i .u8 63))], none⟩,
    ⟨.l 105, .p (.cv .i32), [.l 104], none⟩,
    ⟨.l 106, .p (.bin .shl), [.l 105, .k (.m (.i .u64 12))], none⟩,
    ⟨.l 107, .p (.bin .or), [.l 102, .l 106], none⟩,
    ⟨.l 108, .p .mv, [.v 11], none⟩,
    ⟨.l 109, .p (.bin .and), [.l 108, .k (.m (.i .u8 63))], none⟩,
    ⟨.l 110, .p (.cv .i32), [.l 109], none⟩,
    ⟨.l 111, .p (.bin .shl), [.l 110, .k (.m (.i .u64 6))], none⟩,
    ⟨.l 112, .p (.bin .or), [.l 107, .l 111], none⟩,
    ⟨.l 113, .p .mv, [.v 12], none⟩,
    ⟨.l 114, .p (.bin .and), [.l 113, .k (.m (.i .u8 63))], none⟩,
    ⟨.l 115, .p (.cv .i32), [.l 114], none⟩,
    ⟨.l 116, .p (.bin .or), [.l 112, .l 115], none⟩,
    ⟨.v 2, .p .mv, [.l 116], none⟩,
    ⟨.v 3, .p .mv, [.k (.m (.i .i64 4))], none⟩])
  .ret))))))))))))))))))⟩

/- internal/stringslite.Index -/
def c140_B0 : C :=
  (.seq
  (.seq
  (.reg [⟨.l 57, .p .mv, [.v 8], none⟩,
    ⟨.l 58, .p .mv, [.v 9], none⟩,
    ⟨.v 59, .p (.bin .lss), [.l 57, .l 58], none⟩])
  (.ite (.v 59)
    .skip
    (.ex 1)))
  (.blk 2
  (.seq
  (.seq
  (.reg [⟨.l 60, .p .mv, [.v 0], none⟩,
    ⟨.l 61, .p .mv, [.v 8], none⟩,
    ⟨.l 62, .p .ixs, [.l 60, .l 61], none⟩,
    ⟨.l 63, .p .mv, [.v 6], none⟩,
    ⟨.v 64, .p (.bin .neq), [.l 62, .l 63], none⟩])
  (.ite (.v 64)
    (.seq
    (.reg [⟨.l 65, .p .mv, [.v 0], none⟩,
      ⟨.l 66, .p .mv, [.v 8], none⟩,
      ⟨.l 67, .p (.bin .add), [.l 66, .k (.m (.i .i64 1))], none⟩,
      ⟨.l 68, .p .mv, [.v 9], none⟩,
      ⟨.l 69, .p (.slc 0 true true false), [.l 65, .l 67, .l 68], none⟩,
      ⟨.l 70, .p .mv, [.v 6], none⟩,
      ⟨.l 71, .l (.cal 146), [.l 69, .l 70], none⟩,
      ⟨.v 11, .p .mv, [.l 71], none⟩])
    (.seq
    (.seq
    (.reg [⟨.l 72, .p .mv, [.v 11], none⟩,
      ⟨.v 73, .p (.bin .lss), [.l 72, .k (.m (.i .i64 0))], none⟩])
    (.ite (.v 73)
      (.seq
      (.reg [⟨.v 4, .p .mv, [.k (.m (.i .i64 (-1)))], none⟩])
      .ret)
      .skip))
    (.reg [⟨.l 74, .p .mv, [.v 8], none⟩,
      ⟨.l 75, .p .mv, [.v 11], none⟩,
      ⟨.l 76, .p (.bin .add), [.l 75, .k (.m (.i .i64 1))], none⟩,
      ⟨.l 77, .p (.bin .add), [.l 74, .l 76], none⟩,
      ⟨.v 8, .p .mv, [.l 77], none⟩])))
    .skip))
  (.seq
  (.seq
  (.reg [⟨.l 78, .p .mv, [.v 0], none⟩,
    ⟨.l 79, .p .mv, [.v 8], none⟩,
    ⟨.l 80, .p (.bin .add), [.l 79, .k (.m (.i .i64 1))], none⟩,
    ⟨.l 81, .p .ixs, [.l 78, .l 80], none⟩,
    ⟨.l 82, .p .mv, [.v 7], none⟩,
    ⟨.l 83, .p (.bin .eql), [.l 81, .l 82], none⟩,
    ⟨.l 84, .p .mv, [.l 83], none⟩,
    ⟨.l 85, .p .mv, [.v 0], some (.l 84, true)⟩,
    ⟨.l 86, .p .mv, [.v 8], some (.l 84, true)⟩,
    ⟨.l 87, .p .mv, [.v 8], some (.l 84, true)⟩,
    ⟨.l 88, .p .mv, [.v 5], some (.l 84, true)⟩,
    ⟨.l 89, .p (.bin .add), [.l 87, .l 88], some (.l 84, true)⟩,
    ⟨.l 90, .p (.slc 0 true true false), [.l 85, .l 86, .l 89], some (.l 84, true)⟩,
    ⟨.l 91, .p .mv, [.v 1], some (.l 84, true)⟩,
    ⟨.l 92, .p (.bin .eql), [.l 90, .l 91], some (.l 84, true)⟩,
    ⟨.v 93, .p .pick, [.l 84, .l 92, .k (.m (.b false))], none⟩])
  (.ite (.v 93)
    (.seq
    (.reg [⟨.l 94, .p .mv, [.v 8], none⟩,
      ⟨.v 4, .p .mv, [.l 94], none⟩])
    .ret)
    .skip))
  (.seq
  (.reg [⟨.l 95, .p .mv, [.v 8], none⟩,
    ⟨.l 96, .p (.bin .add), [.l 95, .k (.m (.i .i64 1))], none⟩,
    ⟨.v 8, .p .mv, [.l 96], none⟩])
  (.seq
  (.reg [⟨.l 97, .p .mv, [.v 10], none⟩,
    ⟨.l 98, .p (.bin .add), [.l 97, .k (.m (.i .i64 1))], none⟩,
    ⟨.v 10, .p .mv, [.l 98], none⟩])
  (.seq
  (.reg [⟨.l 99, .p .mv, [.v 5], none⟩,
    ⟨.l 100, .p .mv, [], none⟩,
    ⟨.l 101, .p (.bin .leq), [.l 99, .l 100], none⟩,
    ⟨.l 102, .p .mv, [.l 101], none⟩,
    ⟨.l 103, .p .mv, [.v 10], some (.l 102, true)⟩,
    ⟨.l 104, .p .mv, [.v 8], some (.l 102, true)⟩,
    ⟨.l 105, .l (.cal 148), [.l 104], some (.l 102, true)⟩,
    ⟨.l 106, .p (.bin .gtr), [.l 103, .l 105], some (.l 102, true)⟩,
    ⟨.v 107, .p .pick, [.l 102, .l 106, .k (.m (.b false))], none⟩])
  (.ite (.v 107)
    (.seq
    (.reg [⟨.l 108, .p .mv, [.v 0], none⟩,
      ⟨.l 109, .p .mv, [.v 8], none⟩,
      ⟨.l 110, .p (.slc 0 true false false), [.l 108, .l 109], none⟩,
      ⟨.l 111, .p .mv, [.v 1], none⟩,
      ⟨.l 112, .l (.cal 147), [.l 110, .l 111], none⟩,
      ⟨.v 12, .p .mv, [.l 112], none⟩])
    (.seq
    (.seq
    (.reg [⟨.l 113, .p .mv, [.v 12], none⟩,
      ⟨.v 114, .p (.bin .geq), [.l 113, .k (.m (.i .i64 0))], none⟩])
    (.ite (.v 114)
      (.seq
      (.reg [⟨.l 115, .p .mv, [.v 12], none⟩,
        ⟨.l 116, .p .mv, [.v 8], none⟩,
        ⟨.l 117, .p (.bin .add), [.l 115, .l 116], none⟩,
        ⟨.v 4, .p .mv, [.l 117], none⟩])
      .ret)
      .skip))
    (.seq
    (.reg [⟨.v 4, .p .mv, [.k (.m (.i .i64 (-1)))], none⟩])
    .ret)))
    (.seq
    (.reg [⟨.l 118, .p .mv, [.v 5], none⟩,
      ⟨.l 119, .p .mv, [], none⟩,
      ⟨.l 120, .p (.bin .gtr), [.l 118, .l 119], none⟩,
      ⟨.l 121, .p .mv, [.l 120], none⟩,
      ⟨.l 122, .p .mv, [.v 10], some (.l 121, true)⟩,
      ⟨.l 123, .p .mv, [.v 8], some (.l 121, true)⟩,
      ⟨.l 124, .p (.bin .shr), [.l 123, .k (.m (.i .u64 4))], some (.l 121, true)⟩,
      ⟨.l 125, .p (.bin .add), [.k (.m (.i .i64 4)), .l 124], some (.l 121, true)⟩,
      ⟨.l 126, .p (.bin .geq), [.l 122, .l 125], some (.l 121, true)⟩,
      ⟨.l 127, .p .pick, [.l 121, .l 126, .k (.m (.b false))], none⟩,
      ⟨.l 128, .p .mv, [.l 127], none⟩,
      ⟨.l 129, .p .mv, [.v 8], some (.l 128, true)⟩,
      ⟨.l 130, .p .mv, [.v 9], some (.l 128, true)⟩,
      ⟨.l 131, .p (.bin .lss), [.l 129, .l 130], some (.l 128, true)⟩,
      ⟨.v 132, .p .pick, [.l 128, .l 131, .k (.m (.b false))], none⟩])
    (.ite (.v 132)
      (.seq
      (.reg [⟨.l 133, .p .mv, [.v 0], none⟩,
        ⟨.l 134, .p .mv, [.v 8], none⟩,
        ⟨.l 135, .p (.slc 0 true false false), [.l 133, .l 134], none⟩,
        ⟨.l 136, .p .mv, [.v 1], none⟩,
        ⟨.l 137, .l (.cal 149), [.l 135, .l 136], none⟩,
        ⟨.v 13, .p .mv, [.l 137], none⟩])
      (.seq
      (.seq
      (.reg [⟨.l 138, .p .mv, [.v 13], none⟩,
        ⟨.v 139, .p (.bin .lss), [.l 138, .k (.m (.i .i64 0))], none⟩])
      (.ite (.v 139)
        (.seq
        (.reg [⟨.v 4, .p .mv, [.k (.m (.i .i64 (-1)))], none⟩])
        .ret)
        .skip))
      (.seq
      (.reg [⟨.l 140, .p .mv, [.v 8], none⟩,
        ⟨.l 141, .p .mv, [.v 13], none⟩,
        ⟨.l 142, .p (.bin .add), [.l 140, .l 141], none⟩,
        ⟨.v 4, .p .mv, [.l 142], none⟩])
      .ret)))
      .skip))))))))))
def c140_L0 : C := .loop [4, 11, 16, 24, 31, 36, 59, 64, 73, 93, 107, 132] c140_B0
def c140 : F := ⟨2, [.t 4],
  (.seq
  (.reg [⟨.v 4, .p .mv, [.k (.m (.i .i64 0))], none⟩])
  (.seq
  (.reg [⟨.l 14, .p .mv, [.v 1], none⟩,
    ⟨.l 15, .p (.len true), [.l 14], none⟩,
    ⟨.v 5, .p .mv, [.l 15], none⟩])
  (.seq
  (.blk 0
  (.seq
  (.reg [⟨.l 17, .p .mv, [.v 5], none⟩,
    ⟨.l 18, .p (.bin .eql), [.l 17, .k (.m (.i .i64 0))], none⟩,
    ⟨.l 19, .p .mv, [.l 18], none⟩,
    ⟨.l 20, .p .mv, [.v 1], some (.l 19, false)⟩,
    ⟨.l 21, .p .mv, [.v 0], some (.l 19, false)⟩,
    ⟨.l 22, .p (.bin .eql), [.l 20, .l 21], some (.l 19, false)⟩,
    ⟨.l 23, .p .pick, [.l 19, .k (.m (.b true)), .l 22], none⟩,
    ⟨.v 16, .p .mv, [.l 23], none⟩])
  (.ite (.v 16)
    (.seq
    (.reg [⟨.v 4, .p .mv, [.k (.m (.i .i64 0))], none⟩])
    .ret)
    (.seq
    (.reg [⟨.l 25, .p .mv, [.v 5], none⟩,
      ⟨.l 26, .p (.bin .eql), [.l 25, .k (.m (.i .i64 1))], none⟩,
      ⟨.v 24, .p .mv, [.l 26], none⟩])
    (.ite (.v 24)
      (.seq
      (.reg [⟨.l 27, .p .mv, [.v 0], none⟩,
        ⟨.l 28, .p .mv, [.v 1], none⟩,
        ⟨.l 29, .p .ixs, [.l 28, .k (.m (.i .i64 0))], none⟩,
        ⟨.l 30, .l (.cal 146), [.l 27, .l 29], none⟩,
        ⟨.v 4, .p .mv, [.l 30], none⟩])
      .ret)
      (.seq
      (.reg [⟨.l 32, .p .mv, [.v 5], none⟩,
        ⟨.l 33, .p .mv, [.v 0], none⟩,
        ⟨.l 34, .p (.len true), [.l 33], none⟩,
        ⟨.l 35, .p (.bin .geq), [.l 32, .l 34], none⟩,
        ⟨.v 31, .p .mv, [.l 35], none⟩])
      (.ite (.v 31)
        (.seq
        (.reg [⟨.v 4, .p .mv, [.k (.m (.i .i64 (-1)))], none⟩])
        .ret)
        (.seq
        (.reg [⟨.l 37, .p .mv, [.v 5], none⟩,
          ⟨.l 38, .p .mv, [], none⟩,
          ⟨.l 39, .p (.bin .leq), [.l 37, .l 38], none⟩,
          ⟨.l 40, .p .mv, [.l 39], none⟩,
          ⟨.l 41, .p .mv, [.v 0], some (.l 40, true)⟩,
          ⟨.l 42, .p (.len true), [.l 41], some (.l 40, true)⟩,
          ⟨.l 43, .p (.bin .leq), [.l 42, .k (.m (.i .i64 64))], some (.l 40, true)⟩,
          ⟨.l 44, .p .pick, [.l 40, .l 43, .k (.m (.b false))], none⟩,
          ⟨.v 36, .p .mv, [.l 44], none⟩])
        (.ite (.v 36)
          (.seq
          (.reg [⟨.l 45, .p .mv, [.v 0], none⟩,
            ⟨.l 46, .p .mv, [.v 1], none⟩,
            ⟨.l 47, .l (.cal 147), [.l 45, .l 46], none⟩,
            ⟨.v 4, .p .mv, [.l 47], none⟩])
          .ret)
          .skip)))))))))
  (.seq
  (.reg [⟨.l 48, .p .mv, [.v 1], none⟩,
    ⟨.l 49, .p .ixs, [.l 48, .k (.m (.i .i64 0))], none⟩,
    ⟨.v 6, .p .mv, [.l 49], none⟩])
  (.seq
  (.reg [⟨.l 50, .p .mv, [.v 1], none⟩,
    ⟨.l 51, .p .ixs, [.l 50, .k (.m (.i .i64 1))], none⟩,
    ⟨.v 7, .p .mv, [.l 51], none⟩])
  (.seq
  (.reg [⟨.v 8, .p .mv, [.k (.m (.i .i64 0))], none⟩])
  (.seq
  (.reg [⟨.l 52, .p .mv, [.v 0], none⟩,
    ⟨.l 53, .p (.len true), [.l 52], none⟩,
    ⟨.l 54, .p .mv, [.v 5], none⟩,
    ⟨.l 55, .p (.bin .sub), [.l 53, .l 54], none⟩,
    ⟨.l 56, .p (.bin .add), [.l 55, .k (.m (.i .i64 1))], none⟩,
    ⟨.v 9, .p .mv, [.l 56], none⟩])
  (.seq
  (.reg [⟨.v 10, .p .mv, [.k (.m (.i .i64 0))], none⟩])
  (.seq
  (.blk 1
  c140_L0)
  (.seq
  (.reg [⟨.v 4, .p .mv, [.k (.m (.i .i64 (-1)))], none⟩])
  .ret))))))))))⟩

/- internal/strconv.ParseUint -/
def c141_B0 : C :=
  (.seq
  (.reg [⟨.v 102, .p (.bin .lss), [.v 101, .v 100], none⟩])
  (.seq
  (.ite (.v 102)
    .skip
    (.ex 3))
  (.seq
  (.blk 4
  (.seq
  (.reg [⟨.l 103, .p (.ixa 1), [.v 99, .v 101], none⟩,
    ⟨.l 104, .r (.ld false 1), [.l 103], none⟩,
    ⟨.v 15, .p .mv, [.l 104], none⟩])
  (.seq
  (.reg [⟨.v 16, .p .mv, [.k (.m (.i .u8 0))], none⟩])
  (.seq
  (.blk 5
  (.seq
  (.reg [⟨.l 107, .p .mv, [.v 15], none⟩,
    ⟨.l 108, .p (.bin .eql), [.l 107, .k (.m (.i .u8 95))], none⟩,
    ⟨.l 109, .p .mv, [.l 108], none⟩,
    ⟨.l 110, .p .mv, [.v 8], some (.l 109, true)⟩,
    ⟨.l 111, .p .pick, [.l 109, .l 110, .k (.m (.b false))], none⟩,
    ⟨.v 106, .p .mv, [.l 111], none⟩])
  (.ite (.v 106)
    (.seq
    (.reg [⟨.v 12, .p .mv, [.k (.m (.b true))], none⟩])
    (.ex 4))
    (.seq
    (.reg [⟨.l 113, .p .mv, [.v 15], none⟩,
      ⟨.l 114, .p (.bin .leq), [.k (.m (.i .u8 48)), .l 113], none⟩,
      ⟨.l 115, .p .mv, [.l 114], none⟩,
      ⟨.l 116, .p .mv, [.v 15], some (.l 115, true)⟩,
      ⟨.l 117, .p (.bin .leq), [.l 116, .k (.m (.i .u8 57))], some (.l 115, true)⟩,
      ⟨.l 118, .p .pick, [.l 115, .l 117, .k (.m (.b false))], none⟩,
      ⟨.v 112, .p .mv, [.l 118], none⟩])
    (.ite (.v 112)
      (.reg [⟨.l 119, .p .mv, [.v 15], none⟩,
        ⟨.l 120, .p (.bin .sub), [.l 119, .k (.m (.i .u8 48))], none⟩,
        ⟨.v 16, .p .mv, [.l 120], none⟩])
      (.seq
      (.reg [⟨.l 122, .p .mv, [.v 15], none⟩,
        ⟨.l 123, .l (.cal 150), [.l 122], none⟩,
        ⟨.l 124, .p (.bin .leq), [.k (.m (.i .u8 97)), .l 123], none⟩,
        ⟨.l 125, .p .mv, [.l 124], none⟩,
        ⟨.l 126, .p .mv, [.v 15], some (.l 125, true)⟩,
        ⟨.l 127, .l (.cal 150), [.l 126], some (.l 125, true)⟩,
        ⟨.l 128, .p (.bin .leq), [.l 127, .k (.m (.i .u8 122))], some (.l 125, true)⟩,
        ⟨.l 129, .p .pick, [.l 125, .l 128, .k (.m (.b false))], none⟩,
        ⟨.v 121, .p .mv, [.l 129], none⟩])
      (.ite (.v 121)
        (.reg [⟨.l 130, .p .mv, [.v 15], none⟩,
          ⟨.l 131, .l (.cal 150), [.l 130], none⟩,
          ⟨.l 132, .p (.bin .sub), [.l 131, .k (.m (.i .u8 97))], none⟩,
          ⟨.l 133, .p (.bin .add), [.l 132, .k (.m (.i .u8 10))], none⟩,
          ⟨.v 16, .p .mv, [.l 133], none⟩])
        (.seq
        (.reg [⟨.l 105, .p .mv, [], none⟩,
          ⟨.v 6, .p .mv, [.k (.m (.i .u64 0))], none⟩,
          ⟨.v 7, .p .mv, [.l 105], none⟩])
        .ret))))))))
  (.seq
  (.seq
  (.reg [⟨.l 134, .p .mv, [.v 16], none⟩,
    ⟨.l 135, .p .mv, [.v 1], none⟩,
    ⟨.l 136, .p (.cv .u8), [.l 135], none⟩,
    ⟨.v 137, .p (.bin .geq), [.l 134, .l 136], none⟩])
  (.ite (.v 137)
    (.seq
    (.reg [⟨.l 138, .p .mv, [], none⟩,
      ⟨.v 6, .p .mv, [.k (.m (.i .u64 0))], none⟩,
      ⟨.v 7, .p .mv, [.l 138], none⟩])
    .ret)
    .skip))
  (.seq
  (.seq
  (.reg [⟨.l 139, .p .mv, [.v 13], none⟩,
    ⟨.l 140, .p .mv, [.v 10], none⟩,
    ⟨.v 141, .p (.bin .geq), [.l 139, .l 140], none⟩])
  (.ite (.v 141)
    (.seq
    (.reg [⟨.l 142, .p .mv, [.v 11], none⟩,
      ⟨.l 143, .p .mv, [], none⟩,
      ⟨.v 6, .p .mv, [.l 142], none⟩,
      ⟨.v 7, .p .mv, [.l 143], none⟩])
    .ret)
    .skip))
  (.seq
  (.reg [⟨.l 144, .p .mv, [.v 13], none⟩,
    ⟨.l 145, .p .mv, [.v 1], none⟩,
    ⟨.l 146, .p (.cv .u64), [.l 145], none⟩,
    ⟨.l 147, .p (.bin .mul), [.l 144, .l 146], none⟩,
    ⟨.v 13, .p .mv, [.l 147], none⟩])
  (.seq
  (.reg [⟨.l 148, .p .mv, [.v 13], none⟩,
    ⟨.l 149, .p .mv, [.v 16], none⟩,
    ⟨.l 150, .p (.cv .u64), [.l 149], none⟩,
    ⟨.l 151, .p (.bin .add), [.l 148, .l 150], none⟩,
    ⟨.v 17, .p .mv, [.l 151], none⟩])
  (.seq
  (.seq
  (.reg [⟨.l 152, .p .mv, [.v 17], none⟩,
    ⟨.l 153, .p .mv, [.v 13], none⟩,
    ⟨.l 154, .p (.bin .lss), [.l 152, .l 153], none⟩,
    ⟨.l 155, .p .mv, [.l 154], none⟩,
    ⟨.l 156, .p .mv, [.v 17], some (.l 155, false)⟩,
    ⟨.l 157, .p .mv, [.v 11], some (.l 155, false)⟩,
    ⟨.l 158, .p (.bin .gtr), [.l 156, .l 157], some (.l 155, false)⟩,
    ⟨.v 159, .p .pick, [.l 155, .k (.m (.b true)), .l 158], none⟩])
  (.ite (.v 159)
    (.seq
    (.reg [⟨.l 160, .p .mv, [.v 11], none⟩,
      ⟨.l 161, .p .mv, [], none⟩,
      ⟨.v 6, .p .mv, [.l 160], none⟩,
      ⟨.v 7, .p .mv, [.l 161], none⟩])
    .ret)
    .skip))
  (.reg [⟨.l 162, .p .mv, [.v 17], none⟩,
    ⟨.v 13, .p .mv, [.l 162], none⟩]))))))))))
  (.reg [⟨.l 163, .p (.bin .add), [.v 101, .k (.m (.i .i64 1))], none⟩,
    ⟨.v 101, .p .mv, [.l 163], none⟩]))))
def c141_L0 : C := .loop [0, 2, 6, 7, 15, 16, 17, 19, 25, 32, 37, 40, 52, 64, 77, 83, 85, 90, 92, 102, 106, 112, 121, 137, 141, 159] c141_B0
def c141 : F := ⟨3, [.t 6, .t 7],
  (.seq
  (.reg [⟨.v 6, .p .mv, [.k (.m (.i .u64 0))], none⟩,
    ⟨.v 7, .p .mv, [.k (.m (.nl 3))], none⟩])
  (.seq
  (.seq
  (.reg [⟨.l 18, .p .mv, [.v 0], none⟩,
    ⟨.v 19, .p (.bin .eql), [.l 18, .k (.m (.s []))], none⟩])
  (.ite (.v 19)
    (.seq
    (.reg [⟨.l 20, .p .mv, [], none⟩,
      ⟨.v 6, .p .mv, [.k (.m (.i .u64 0))], none⟩,
      ⟨.v 7, .p .mv, [.l 20], none⟩])
    .ret)
    .skip))
  (.seq
  (.reg [⟨.l 21, .p .mv, [.v 1], none⟩,
    ⟨.l 22, .p (.bin .eql), [.l 21, .k (.m (.i .i64 0))], none⟩,
    ⟨.v 8, .p .mv, [.l 22], none⟩])
  (.seq
  (.reg [⟨.l 23, .p .mv, [.v 0], none⟩,
    ⟨.v 9, .p .mv, [.l 23], none⟩])
  (.seq
  (.blk 0
  (.seq
  (.reg [⟨.l 26, .p .mv, [.v 1], none⟩,
    ⟨.l 27, .p (.bin .leq), [.k (.m (.i .i64 2)), .l 26], none⟩,
    ⟨.l 28, .p .mv, [.l 27], none⟩,
    ⟨.l 29, .p .mv, [.v 1], some (.l 28, true)⟩,
    ⟨.l 30, .p (.bin .leq), [.l 29, .k (.m (.i .i64 36))], some (.l 28, true)⟩,
    ⟨.l 31, .p .pick, [.l 28, .l 30, .k (.m (.b false))], none⟩,
    ⟨.v 25, .p .mv, [.l 31], none⟩])
  (.ite (.v 25)
    .skip
    (.seq
    (.reg [⟨.l 33, .p .mv, [.v 1], none⟩,
      ⟨.l 34, .p (.bin .eql), [.l 33, .k (.m (.i .i64 0))], none⟩,
      ⟨.v 32, .p .mv, [.l 34], none⟩])
    (.ite (.v 32)
      (.seq
      (.reg [⟨.v 1, .p .mv, [.k (.m (.i .i64 10))], none⟩])
      (.seq
      (.reg [⟨.l 35, .p .mv, [.v 0], none⟩,
        ⟨.l 36, .p .ixs, [.l 35, .k (.m (.i .i64 0))], none⟩,
        ⟨.v 37, .p (.bin .eql), [.l 36, .k (.m (.i .u8 48))], none⟩])
      (.ite (.v 37)
        (.blk 1
        (.seq
        (.reg [⟨.l 41, .p .mv, [.v 0], none⟩,
          ⟨.l 42, .p (.len true), [.l 41], none⟩,
          ⟨.l 43, .p (.bin .geq), [.l 42, .k (.m (.i .i64 3))], none⟩,
          ⟨.l 44, .p .mv, [.l 43], none⟩,
          ⟨.l 45, .p .mv, [.v 0], some (.l 44, true)⟩,
          ⟨.l 46, .p .ixs, [.l 45, .k (.m (.i .i64 1))], some (.l 44, true)⟩,
          ⟨.l 47, .l (.cal 150), [.l 46], some (.l 44, true)⟩,
          ⟨.l 48, .p (.bin .eql), [.l 47, .k (.m (.i .u8 98))], some (.l 44, true)⟩,
          ⟨.l 49, .p .pick, [.l 44, .l 48, .k (.m (.b false))], none⟩,
          ⟨.v 40, .p .mv, [.l 49], none⟩])
        (.ite (.v 40)
          (.seq
          (.reg [⟨.v 1, .p .mv, [.k (.m (.i .i64 2))], none⟩])
          (.reg [⟨.l 50, .p .mv, [.v 0], none⟩,
            ⟨.l 51, .p (.slc 0 true false false), [.l 50, .k (.m (.i .i64 2))], none⟩,
            ⟨.v 0, .p .mv, [.l 51], none⟩]))
          (.seq
          (.reg [⟨.l 53, .p .mv, [.v 0], none⟩,
            ⟨.l 54, .p (.len true), [.l 53], none⟩,
            ⟨.l 55, .p (.bin .geq), [.l 54, .k (.m (.i .i64 3))], none⟩,
            ⟨.l 56, .p .mv, [.l 55], none⟩,
            ⟨.l 57, .p .mv, [.v 0], some (.l 56, true)⟩,
            ⟨.l 58, .p .ixs, [.l 57, .k (.m (.i .i64 1))], some (.l 56, true)⟩,
            ⟨.l 59, .l (.cal 150), [.l 58], some (.l 56, true)⟩,
            ⟨.l 60, .p (.bin .eql), [.l 59, .k (.m (.i .u8 111))], some (.l 56, true)⟩,
            ⟨.l 61, .p .pick, [.l 56, .l 60, .k (.m (.b false))], none⟩,
            ⟨.v 52, .p .mv, [.l 61], none⟩])
          (.ite (.v 52)
            (.seq
            (.reg [⟨.v 1, .p .mv, [.k (.m (.i .i64 8))], none⟩])
            (.reg [⟨.l 62, .p .mv, [.v 0], none⟩,
              ⟨.l 63, .p (.slc 0 true false false), [.l 62, .k (.m (.i .i64 2))], none⟩,
              ⟨.v 0, .p .mv, [.l 63], none⟩]))
            (.seq
            (.reg [⟨.l 65, .p .mv, [.v 0], none⟩,
              ⟨.l 66, .p (.len true), [.l 65], none⟩,
              ⟨.l 67, .p (.bin .geq), [.l 66, .k (.m (.i .i64 3))], none⟩,
              ⟨.l 68, .p .mv, [.l 67], none⟩,
              ⟨.l 69, .p .mv, [.v 0], some (.l 68, true)⟩,
              ⟨.l 70, .p .ixs, [.l 69, .k (.m (.i .i64 1))], some (.l 68, true)⟩,
              ⟨.l 71, .l (.cal 150), [.l 70], some (.l 68, true)⟩,
              ⟨.l 72, .p (.bin .eql), [.l 71, .k (.m (.i .u8 120))], some (.l 68, true)⟩,
              ⟨.l 73, .p .pick, [.l 68, .l 72, .k (.m (.b false))], none⟩,
              ⟨.v 64, .p .mv, [.l 73], none⟩])
            (.ite (.v 64)
              (.seq
              (.reg [⟨.v 1, .p .mv, [.k (.m (.i .i64 16))], none⟩])
              (.reg [⟨.l 74, .p .mv, [.v 0], none⟩,
                ⟨.l 75, .p (.slc 0 true false false), [.l 74, .k (.m (.i .i64 2))], none⟩,
                ⟨.v 0, .p .mv, [.l 75], none⟩]))
              (.seq
              (.reg [⟨.v 1, .p .mv, [.k (.m (.i .i64 8))], none⟩])
              (.reg [⟨.l 38, .p .mv, [.v 0], none⟩,
                ⟨.l 39, .p (.slc 0 true false false), [.l 38, .k (.m (.i .i64 1))], none⟩,
                ⟨.v 0, .p .mv, [.l 39], none⟩])))))))))
        .skip)))
      (.seq
      (.reg [⟨.l 24, .p .mv, [], none⟩,
        ⟨.v 6, .p .mv, [.k (.m (.i .u64 0))], none⟩,
        ⟨.v 7, .p .mv, [.l 24], none⟩])
      .ret))))))
  (.seq
  (.seq
  (.reg [⟨.l 76, .p .mv, [.v 2], none⟩,
    ⟨.v 77, .p (.bin .eql), [.l 76, .k (.m (.i .i64 0))], none⟩])
  (.ite (.v 77)
    (.reg [⟨.v 2, .p .mv, [.k (.m (.i .i64 64))], none⟩])
    (.seq
    (.reg [⟨.l 78, .p .mv, [.v 2], none⟩,
      ⟨.l 79, .p (.bin .lss), [.l 78, .k (.m (.i .i64 0))], none⟩,
      ⟨.l 80, .p .mv, [.l 79], none⟩,
      ⟨.l 81, .p .mv, [.v 2], some (.l 80, false)⟩,
      ⟨.l 82, .p (.bin .gtr), [.l 81, .k (.m (.i .i64 64))], some (.l 80, false)⟩,
      ⟨.v 83, .p .pick, [.l 80, .k (.m (.b true)), .l 82], none⟩])
    (.ite (.v 83)
      (.seq
      (.reg [⟨.l 84, .p .mv, [], none⟩,
        ⟨.v 6, .p .mv, [.k (.m (.i .u64 0))], none⟩,
        ⟨.v 7, .p .mv, [.l 84], none⟩])
      .ret)
      .skip))))
  (.seq
  (.reg [⟨.v 10, .p .mv, [.k (.m (.i .u64 0))], none⟩])
  (.seq
  (.seq
  (.reg [⟨.v 85, .p .mv, [.v 1], none⟩])
  (.blk 2
  (.seq
  (.reg [⟨.l 91, .p (.bin .eql), [.v 85, .k (.m (.i .i64 10))], none⟩,
    ⟨.v 90, .p .mv, [.l 91], none⟩])
  (.ite (.v 90)
    (.reg [⟨.v 10, .p .mv, [.k (.m (.i .u64 1844674407370955162))], none⟩])
    (.seq
    (.reg [⟨.l 93, .p (.bin .eql), [.v 85, .k (.m (.i .i64 16))], none⟩,
      ⟨.v 92, .p .mv, [.l 93], none⟩])
    (.ite (.v 92)
      (.reg [⟨.v 10, .p .mv, [.k (.m (.i .u64 1152921504606846976))], none⟩])
      (.reg [⟨.l 86, .p .mv, [.v 1], none⟩,
        ⟨.l 87, .p (.cv .u64), [.l 86], none⟩,
        ⟨.l 88, .p (.bin .quo), [.k (.m (.i .u64 18446744073709551615)), .l 87], none⟩,
        ⟨.l 89, .p (.bin .add), [.l 88, .k (.m (.i .u64 1))], none⟩,
        ⟨.v 10, .p .mv, [.l 89], none⟩])))))))
  (.seq
  (.reg [⟨.l 94, .p .mv, [.v 2], none⟩,
    ⟨.l 95, .p (.cv .u64), [.l 94], none⟩,
    ⟨.l 96, .p (.bin .shl), [.k (.m (.i .u64 1)), .l 95], none⟩,
    ⟨.l 97, .p (.bin .sub), [.l 96, .k (.m (.i .u64 1))], none⟩,
    ⟨.v 11, .p .mv, [.l 97], none⟩])
  (.seq
  (.reg [⟨.v 12, .p .mv, [.k (.m (.b false))], none⟩])
  (.seq
  (.reg [⟨.v 13, .p .mv, [.k (.m (.i .u64 0))], none⟩])
  (.seq
  (.seq
  (.reg [⟨.l 98, .p .mv, [.v 0], none⟩,
    ⟨.v 99, .p .s2b, [.l 98], none⟩,
    ⟨.v 100, .p (.len false), [.v 99], none⟩,
    ⟨.v 101, .p .mv, [.k (.m (.i .i64 0))], none⟩])
  (.blk 3
  c141_L0))
  (.seq
  (.seq
  (.reg [⟨.l 164, .p .mv, [.v 12], none⟩,
    ⟨.l 165, .p .mv, [.l 164], none⟩,
    ⟨.l 166, .p .mv, [.v 9], some (.l 165, true)⟩,
    ⟨.l 167, .l (.cal 151), [.l 166], some (.l 165, true)⟩,
    ⟨.l 168, .p (.un .not), [.l 167], some (.l 165, true)⟩,
    ⟨.v 169, .p .pick, [.l 165, .l 168, .k (.m (.b false))], none⟩])
  (.ite (.v 169)
    (.seq
    (.reg [⟨.l 170, .p .mv, [], none⟩,
      ⟨.v 6, .p .mv, [.k (.m (.i .u64 0))], none⟩,
      ⟨.v 7, .p .mv, [.l 170], none⟩])
    .ret)
    .skip))
  (.seq
  (.reg [⟨.l 171, .p .mv, [.v 13], none⟩,
    ⟨.v 6, .p .mv, [.l 171], none⟩,
    ⟨.v 7, .p .mv, [.k (.m (.nl 3))], none⟩])
  .ret))))))))))))))⟩

/- internal/stringslite.Clone -/
def c142 : F := ⟨1, [.t 2],
  (.seq
  (.reg [⟨.v 2, .p .mv, [.k (.m (.s []))], none⟩])
  (.seq
  (.seq
  (.reg [⟨.l 4, .p .mv, [.v 0], none⟩,
    ⟨.l 5, .p (.len true), [.l 4], none⟩,
    ⟨.v 6, .p (.bin .eql), [.l 5, .k (.m (.i .i64 0))], none⟩])
  (.ite (.v 6)
    (.seq
    (.reg [⟨.v 2, .p .mv, [.k (.m (.s []))], none⟩])
    .ret)
    .skip))
  (.seq
  (.reg [⟨.l 7, .p .mv, [.v 0], none⟩,
    ⟨.l 8, .p (.len true), [.l 7], none⟩,
    ⟨.l 9, .l (.mks 5 1 [.m (.i .u8 0)] 1), [.l 8, .l 8], none⟩,
    ⟨.v 3, .p .mv, [.l 9], none⟩])
  (.seq
  (.reg [⟨.l 10, .p .mv, [.v 3], none⟩,
    ⟨.l 11, .p .mv, [.v 0], none⟩,
    ⟨.l 12, .p .mv, [], none⟩])
  (.seq
  (.reg [⟨.l 13, .p .mv, [.v 3], none⟩,
    ⟨.l 14, .p (.ixa 1), [.l 13, .k (.m (.i .i64 0))], none⟩,
    ⟨.l 15, .p .mv, [.v 3], none⟩,
    ⟨.l 16, .p (.len false), [.l 15], none⟩,
    ⟨.l 17, .l (.ust 5), [.l 14, .l 16], none⟩,
    ⟨.v 2, .p .mv, [.l 17], none⟩])
  .ret)))))⟩

/- errors.New -/
def c143 : F := ⟨1, [.t 2],
  (.seq
  (.reg [⟨.v 2, .p .mv, [.k (.m (.nl 3))], none⟩])
  (.seq
  (.reg [⟨.l 3, .p .mv, [.v 0], none⟩,
    ⟨.l 4, .p (.build [.m (.s [])] [(0, 1)]), [.l 3], none⟩,
    ⟨.v 5, .l (.bxs 167 1 1), [.l 4], none⟩,
    ⟨.l 6, .p .mv, [], none⟩,
    ⟨.v 2, .p .mv, [.l 6], none⟩])
  .ret))⟩

/- math/bits.TrailingZeros32 -/
def c144 : F := ⟨1, [.t 2],
  (.seq
  (.reg [⟨.v 2, .p .mv, [.k (.m (.i .i64 0))], none⟩])
  (.seq
  (.seq
  (.reg [⟨.l 3, .p .mv, [.v 0], none⟩,
    ⟨.v 4, .p (.bin .eql), [.l 3, .k (.m (.i .u32 0))], none⟩])
  (.ite (.v 4)
    (.seq
    (.reg [⟨.v 2, .p .mv, [.k (.m (.i .i64 32))], none⟩])
    .ret)
    .skip))
  (.seq
  (.reg [⟨.l 5, .p .mv, [.v 0], none⟩,
    ⟨.l 6, .p .mv, [.v 0], none⟩,
    ⟨.l 7, .p (.un .neg), [.l 6], none⟩,
    ⟨.l 8, .p (.bin .and), [.l 5, .l 7], none⟩,
    ⟨.l 9, .p (.bin .mul), [.l 8, .k (.m (.i .u32 125613361))], none⟩,
    ⟨.l 10, .p (.bin .shr), [.l 9, .k (.m (.i .u64 27))], none⟩,
    ⟨.l 11, .p (.ixaA 32 1), [.k (.m (.pt g6)), .l 10], none⟩,
    ⟨.l 12, .r (.ld false 1), [.l 11], none⟩,
    ⟨.l 13, .p (.cv .i64), [.l 12], none⟩,
    ⟨.v 2, .p .mv, [.l 13], none⟩])
  .ret)))⟩

/- math/bits.TrailingZeros64 -/
def c145 : F := ⟨1, [.t 2],
  (.seq
  (.reg [⟨.v 2, .p .mv, [.k (.m (.i .i64 0))], none⟩])
  (.seq
  (.seq
  (.reg [⟨.l 3, .p .mv, [.v 0], none⟩,
    ⟨.v 4, .p (.bin .eql), [.l 3, .k (.m (.i .u64 0))], none⟩])
  (.ite (.v 4)
    (.seq
    (.reg [⟨.v 2, .p .mv, [.k (.m (.i .i64 64))], none⟩])
    .ret)
    .skip))
  (.seq
  (.reg [⟨.l 5, .p .mv, [.v 0], none⟩,
    ⟨.l 6, .p .mv, [.v 0], none⟩,
    ⟨.l 7, .p (.un .neg), [.l 6], none⟩,
    ⟨.l 8, .p (.bin .and), [.l 5, .l 7], none⟩,
    ⟨.l 9, .p (.bin .mul), [.l 8, .k (.m (.i .u64 285870213051353865))], none⟩,
    ⟨.l 10, .p (.bin .shr), [.l 9, .k (.m (.i .u64 58))], none⟩,
    ⟨.l 11, .p (.ixaA 64 1), [.k (.m (.pt g7)), .l 10], none⟩,
    ⟨.l 12, .r (.ld false 1), [.l 11], none⟩,
    ⟨.l 13, .p (.cv .i64), [.l 12], none⟩,
    ⟨.v 2, .p .mv, [.l 13], none⟩])
  .ret)))⟩

/- internal/bytealg.Cutover -/
def c148 : F := ⟨1, [.t 2],
  (.seq
  (.reg [⟨.v 2, .p .mv, [.k (.m (.i .i64 0))], none⟩])
  (.seq
  (.reg [⟨.l 3, .p .mv, [.v 0], none⟩,
    ⟨.l 4, .p (.bin .add), [.l 3, .k (.m (.i .i64 16))], none⟩,
    ⟨.l 5, .p (.bin .quo), [.l 4, .k (.m (.i .i64 8))], none⟩,
    ⟨.v 2, .p .mv, [.l 5], none⟩])
  .ret))⟩

/- internal/bytealg.IndexRabinKarp[string] -/
def c149_B0 : C :=
  (.seq
  (.seq
  (.reg [⟨.l 18, .p .mv, [.v 9], none⟩,
    ⟨.l 19, .p .mv, [.v 7], none⟩,
    ⟨.v 20, .p (.bin .lss), [.l 18, .l 19], none⟩])
  (.ite (.v 20)
    .skip
    (.ex 0)))
  (.seq
  (.blk 1
  (.reg [⟨.l 23, .p .mv, [.v 8], none⟩,
    ⟨.l 24, .p (.bin .mul), [.l 23, .k (.m (.i .u32 16777619))], none⟩,
    ⟨.l 25, .p .mv, [.v 0], none⟩,
    ⟨.l 26, .p .mv, [.v 9], none⟩,
    ⟨.l 27, .p .ixs, [.l 25, .l 26], none⟩,
    ⟨.l 28, .p (.cv .u32), [.l 27], none⟩,
    ⟨.l 29, .p (.bin .add), [.l 24, .l 28], none⟩,
    ⟨.v 8, .p .mv, [.l 29], none⟩]))
  (.reg [⟨.l 21, .p .mv, [.v 9], none⟩,
    ⟨.l 22, .p (.bin .add), [.l 21, .k (.m (.i .i64 1))], none⟩,
    ⟨.v 9, .p .mv, [.l 22], none⟩])))
def c149_L0 : C := .loop [4, 20] c149_B0
def c149_B1 : C :=
  (.seq
  (.seq
  (.reg [⟨.l 41, .p .mv, [.v 10], none⟩,
    ⟨.l 42, .p .mv, [.v 0], none⟩,
    ⟨.l 43, .p (.len true), [.l 42], none⟩,
    ⟨.v 44, .p (.bin .lss), [.l 41, .l 43], none⟩])
  (.ite (.v 44)
    .skip
    (.ex 2)))
  (.blk 3
  (.seq
  (.reg [⟨.l 45, .p .mv, [.v 8], none⟩,
    ⟨.l 46, .p (.bin .mul), [.l 45, .k (.m (.i .u32 16777619))], none⟩,
    ⟨.v 8, .p .mv, [.l 46], none⟩])
  (.seq
  (.reg [⟨.l 47, .p .mv, [.v 8], none⟩,
    ⟨.l 48, .p .mv, [.v 0], none⟩,
    ⟨.l 49, .p .mv, [.v 10], none⟩,
    ⟨.l 50, .p .ixs, [.l 48, .l 49], none⟩,
    ⟨.l 51, .p (.cv .u32), [.l 50], none⟩,
    ⟨.l 52, .p (.bin .add), [.l 47, .l 51], none⟩,
    ⟨.v 8, .p .mv, [.l 52], none⟩])
  (.seq
  (.reg [⟨.l 53, .p .mv, [.v 8], none⟩,
    ⟨.l 54, .p .mv, [.v 6], none⟩,
    ⟨.l 55, .p .mv, [.v 0], none⟩,
    ⟨.l 56, .p .mv, [.v 10], none⟩,
    ⟨.l 57, .p .mv, [.v 7], none⟩,
    ⟨.l 58, .p (.bin .sub), [.l 56, .l 57], none⟩,
    ⟨.l 59, .p .ixs, [.l 55, .l 58], none⟩,
    ⟨.l 60, .p (.cv .u32), [.l 59], none⟩,
    ⟨.l 61, .p (.bin .mul), [.l 54, .l 60], none⟩,
    ⟨.l 62, .p (.bin .sub), [.l 53, .l 61], none⟩,
    ⟨.v 8, .p .mv, [.l 62], none⟩])
  (.seq
  (.reg [⟨.l 63, .p .mv, [.v 10], none⟩,
    ⟨.l 64, .p (.bin .add), [.l 63, .k (.m (.i .i64 1))], none⟩,
    ⟨.v 10, .p .mv, [.l 64], none⟩])
  (.seq
  (.reg [⟨.l 65, .p .mv, [.v 8], none⟩,
    ⟨.l 66, .p .mv, [.v 5], none⟩,
    ⟨.l 67, .p (.bin .eql), [.l 65, .l 66], none⟩,
    ⟨.l 68, .p .mv, [.l 67], none⟩,
    ⟨.l 69, .p .mv, [.v 0], some (.l 68, true)⟩,
    ⟨.l 70, .p .mv, [.v 10], some (.l 68, true)⟩,
    ⟨.l 71, .p .mv, [.v 7], some (.l 68, true)⟩,
    ⟨.l 72, .p (.bin .sub), [.l 70, .l 71], some (.l 68, true)⟩,
    ⟨.l 73, .p .mv, [.v 10], some (.l 68, true)⟩,
    ⟨.l 74, .p (.slc 0 true true false), [.l 69, .l 72, .l 73], some (.l 68, true)⟩,
    ⟨.l 75, .p .mv, [.v 1], some (.l 68, true)⟩,
    ⟨.l 76, .p (.bin .eql), [.l 74, .l 75], some (.l 68, true)⟩,
    ⟨.v 77, .p .pick, [.l 68, .l 76, .k (.m (.b false))], none⟩])
  (.ite (.v 77)
    (.seq
    (.reg [⟨.l 78, .p .mv, [.v 10], none⟩,
      ⟨.l 79, .p .mv, [.v 7], none⟩,
      ⟨.l 80, .p (.bin .sub), [.l 78, .l 79], none⟩,
      ⟨.v 4, .p .mv, [.l 80], none⟩])
    .ret)
    .skip))))))))
def c149_L1 : C := .loop [9, 20, 39, 44, 77] c149_B1
def c149 : F := ⟨2, [.t 4],
  (.seq
  (.reg [⟨.v 4, .p .mv, [.k (.m (.i .i64 0))], none⟩])
  (.seq
  (.reg [⟨.l 12, .p .mv, [.v 1], none⟩,
    ⟨.l 13, .l (.cal 153), [.l 12], none⟩,
    ⟨.l 11, .p .mv, [.l 13], none⟩,
    ⟨.l 14, .p (.ext 0), [.l 11], none⟩,
    ⟨.l 15, .p (.ext 1), [.l 11], none⟩,
    ⟨.v 5, .p .mv, [.l 14], none⟩,
    ⟨.v 6, .p .mv, [.l 15], none⟩])
  (.seq
  (.reg [⟨.l 16, .p .mv, [.v 1], none⟩,
    ⟨.l 17, .p (.len true), [.l 16], none⟩,
    ⟨.v 7, .p .mv, [.l 17], none⟩])
  (.seq
  (.reg [⟨.v 8, .p .mv, [.k (.m (.i .u32 0))], none⟩])
  (.seq
  (.seq
  (.reg [⟨.v 9, .p .mv, [.k (.m (.i .i64 0))], none⟩])
  (.blk 0
  c149_L0))
  (.seq
  (.seq
  (.reg [⟨.l 30, .p .mv, [.v 8], none⟩,
    ⟨.l 31, .p .mv, [.v 5], none⟩,
    ⟨.l 32, .p (.bin .eql), [.l 30, .l 31], none⟩,
    ⟨.l 33, .p .mv, [.l 32], none⟩,
    ⟨.l 34, .p .mv, [.v 0], some (.l 33, true)⟩,
    ⟨.l 35, .p .mv, [.v 7], some (.l 33, true)⟩,
    ⟨.l 36, .p (.slc 0 false true false), [.l 34, .l 35], some (.l 33, true)⟩,
    ⟨.l 37, .p .mv, [.v 1], some (.l 33, true)⟩,
    ⟨.l 38, .p (.bin .eql), [.l 36, .l 37], some (.l 33, true)⟩,
    ⟨.v 39, .p .pick, [.l 33, .l 38, .k (.m (.b false))], none⟩])
  (.ite (.v 39)
    (.seq
    (.reg [⟨.v 4, .p .mv, [.k (.m (.i .i64 0))], none⟩])
    .ret)
    .skip))
  (.seq
  (.seq
  (.reg [⟨.l 40, .p .mv, [.v 7], none⟩,
    ⟨.v 10, .p .mv, [.l 40], none⟩])
  (.blk 2
  c149_L1))
  (.seq
  (.reg [⟨.v 4, .p .mv, [.k (.m (.i .i64 (-1)))], none⟩])
  .ret))))))))⟩

/- internal/strconv.lower -/
def c150 : F := ⟨1, [.t 2],
  (.seq
  (.reg [⟨.v 2, .p .mv, [.k (.m (.i .u8 0))], none⟩])
  (.seq
  (.reg [⟨.l 3, .p .mv, [.v 0], none⟩,
    ⟨.l 4, .p (.bin .or), [.l 3, .k (.m (.i .u8 32))], none⟩,
    ⟨.v 2, .p .mv, [.l 4], none⟩])
  .ret))⟩

/- internal/strconv.underscoreOK -/
def c151_B0 : C :=
  (.seq
  (.seq
  (.reg [⟨.l 51, .p .mv, [.v 4], none⟩,
    ⟨.l 52, .p .mv, [.v 0], none⟩,
    ⟨.l 53, .p (.len true), [.l 52], none⟩,
    ⟨.v 54, .p (.bin .lss), [.l 51, .l 53], none⟩])
  (.ite (.v 54)
    .skip
    (.ex 0)))
  (.seq
  (.blk 1
  (.seq
  (.seq
  (.reg [⟨.l 57, .p .mv, [.v 0], none⟩,
    ⟨.l 58, .p .mv, [.v 4], none⟩,
    ⟨.l 59, .p .ixs, [.l 57, .l 58], none⟩,
    ⟨.l 60, .p (.bin .leq), [.k (.m (.i .u8 48)), .l 59], none⟩,
    ⟨.l 61, .p .mv, [.l 60], none⟩,
    ⟨.l 62, .p .mv, [.v 0], some (.l 61, true)⟩,
    ⟨.l 63, .p .mv, [.v 4], some (.l 61, true)⟩,
    ⟨.l 64, .p .ixs, [.l 62, .l 63], some (.l 61, true)⟩,
    ⟨.l 65, .p (.bin .leq), [.l 64, .k (.m (.i .u8 57))], some (.l 61, true)⟩,
    ⟨.l 66, .p .pick, [.l 61, .l 65, .k (.m (.b false))], none⟩,
    ⟨.l 67, .p .mv, [.l 66], none⟩,
    ⟨.l 68, .p .mv, [.v 5], some (.l 67, false)⟩,
    ⟨.l 69, .p .mv, [.l 68], some (.l 67, false)⟩,
    ⟨.l 70, .p .mv, [.v 0], some (.l 69, true)⟩,
    ⟨.l 71, .p .mv, [.v 4], some (.l 69, true)⟩,
    ⟨.l 72, .p .ixs, [.l 70, .l 71], some (.l 69, true)⟩,
    ⟨.l 73, .l (.cal 150), [.l 72], some (.l 69, true)⟩,
    ⟨.l 74, .p (.bin .leq), [.k (.m (.i .u8 97)), .l 73], some (.l 69, true)⟩,
    ⟨.l 75, .p .pick, [.l 69, .l 74, .k (.m (.b false))], some (.l 67, false)⟩,
    ⟨.l 76, .p .mv, [.l 75], some (.l 67, false)⟩,
    ⟨.l 77, .p .mv, [.v 0], some (.l 76, true)⟩,
    ⟨.l 78, .p .mv, [.v 4], some (.l 76, true)⟩,
    ⟨.l 79, .p .ixs, [.l 77, .l 78], some (.l 76, true)⟩,
    ⟨.l 80, .l (.cal 150), [.l 79], some (.l 76, true)⟩,
    ⟨.l 81, .p (.bin .leq), [.l 80, .k (.m (.i .u8 102))], some (.l 76, true)⟩,
    ⟨.l 82, .p .pick, [.l 76, .l 81, .k (.m (.b false))], some (.l 67, false)⟩,
    ⟨.v 83, .p .pick, [.l 67, .k (.m (.b true)), .l 82], none⟩])
  (.ite (.v 83)
    (.seq
    (.reg [⟨.v 3, .p .mv, [.k (.m (.i .i32 48))], none⟩])
    (.ex 1))
    .skip))
  (.seq
  (.seq
  (.reg [⟨.l 84, .p .mv, [.v 0], none⟩,
    ⟨.l 85, .p .mv, [.v 4], none⟩,
    ⟨.l 86, .p .ixs, [.l 84, .l 85], none⟩,
    ⟨.v 87, .p (.bin .eql), [.l 86, .k (.m (.i .u8 95))], none⟩])
  (.ite (.v 87)
    (.seq
    (.seq
    (.reg [⟨.l 88, .p .mv, [.v 3], none⟩,
      ⟨.v 89, .p (.bin .neq), [.l 88, .k (.m (.i .i32 48))], none⟩])
    (.ite (.v 89)
      (.seq
      (.reg [⟨.v 2, .p .mv, [.k (.m (.b false))], none⟩])
      .ret)
      .skip))
    (.seq
    (.reg [⟨.v 3, .p .mv, [.k (.m (.i .i32 95))], none⟩])
    (.ex 1)))
    .skip))
  (.seq
  (.seq
  (.reg [⟨.l 90, .p .mv, [.v 3], none⟩,
    ⟨.v 91, .p (.bin .eql), [.l 90, .k (.m (.i .i32 95))], none⟩])
  (.ite (.v 91)
    (.seq
    (.reg [⟨.v 2, .p .mv, [.k (.m (.b false))], none⟩])
    .ret)
    .skip))
  (.reg [⟨.v 3, .p .mv, [.k (.m (.i .i32 33))], none⟩])))))
  (.reg [⟨.l 55, .p .mv, [.v 4], none⟩,
    ⟨.l 56, .p (.bin .add), [.l 55, .k (.m (.i .i64 1))], none⟩,
    ⟨.v 4, .p .mv, [.l 56], none⟩])))
def c151_L0 : C := .loop [2, 18, 46, 54, 83, 87, 89, 91] c151_B0
def c151 : F := ⟨1, [.t 2],
  (.seq
  (.reg [⟨.v 2, .p .mv, [.k (.m (.b false))], none⟩])
  (.seq
  (.reg [⟨.v 3, .p .mv, [.k (.m (.i .i32 94))], none⟩])
  (.seq
  (.reg [⟨.v 4, .p .mv, [.k (.m (.i .i64 0))], none⟩])
  (.seq
  (.seq
  (.reg [⟨.l 6, .p .mv, [.v 0], none⟩,
    ⟨.l 7, .p (.len true), [.l 6], none⟩,
    ⟨.l 8, .p (.bin .geq), [.l 7, .k (.m (.i .i64 1))], none⟩,
    ⟨.l 9, .p .mv, [.l 8], none⟩,
    ⟨.l 10, .p .mv, [.v 0], some (.l 9, true)⟩,
    ⟨.l 11, .p .ixs, [.l 10, .k (.m (.i .i64 0))], some (.l 9, true)⟩,
    ⟨.l 12, .p (.bin .eql), [.l 11, .k (.m (.i .u8 45))], some (.l 9, true)⟩,
    ⟨.l 13, .p .mv, [.l 12], some (.l 9, true)⟩,
    ⟨.l 14, .p .mv, [.v 0], some (.l 13, false)⟩,
    ⟨.l 15, .p .ixs, [.l 14, .k (.m (.i .i64 0))], some (.l 13, false)⟩,
    ⟨.l 16, .p (.bin .eql), [.l 15, .k (.m (.i .u8 43))], some (.l 13, false)⟩,
    ⟨.l 17, .p .pick, [.l 13, .k (.m (.b true)), .l 16], some (.l 9, true)⟩,
    ⟨.v 18, .p .pick, [.l 9, .l 17, .k (.m (.b false))], none⟩])
  (.ite (.v 18)
    (.reg [⟨.l 19, .p .mv, [.v 0], none⟩,
      ⟨.l 20, .p (.slc 0 true false false), [.l 19, .k (.m (.i .i64 1))], none⟩,
      ⟨.v 0, .p .mv, [.l 20], none⟩])
    .skip))
  (.seq
  (.reg [⟨.v 5, .p .mv, [.k (.m (.b false))], none⟩])
  (.seq
  (.seq
  (.reg [⟨.l 21, .p .mv, [.v 0], none⟩,
    ⟨.l 22, .p (.len true), [.l 21], none⟩,
    ⟨.l 23, .p (.bin .geq), [.l 22, .k (.m (.i .i64 2))], none⟩,
    ⟨.l 24, .p .mv, [.l 23], none⟩,
    ⟨.l 25, .p .mv, [.v 0], some (.l 24, true)⟩,
    ⟨.l 26, .p .ixs, [.l 25, .k (.m (.i .i64 0))], some (.l 24, true)⟩,
    ⟨.l 27, .p (.bin .eql), [.l 26, .k (.m (.i .u8 48))], some (.l 24, true)⟩,
    ⟨.l 28, .p .pick, [.l 24, .l 27, .k (.m (.b false))], none⟩,
    ⟨.l 29, .p .mv, [.l 28], none⟩,
    ⟨.l 30, .p .mv, [.v 0], some (.l 29, true)⟩,
    ⟨.l 31, .p .ixs, [.l 30, .k (.m (.i .i64 1))], some (.l 29, true)⟩,
    ⟨.l 32, .l (.cal 150), [.l 31], some (.l 29, true)⟩,
    ⟨.l 33, .p (.bin .eql), [.l 32, .k (.m (.i .u8 98))], some (.l 29, true)⟩,
    ⟨.l 34, .p .mv, [.l 33], some (.l 29, true)⟩,
    ⟨.l 35, .p .mv, [.v 0], some (.l 34, false)⟩,
    ⟨.l 36, .p .ixs, [.l 35, .k (.m (.i .i64 1))], some (.l 34, false)⟩,
    ⟨.l 37, .l (.cal 150), [.l 36], some (.l 34, false)⟩,
    ⟨.l 38, .p (.bin .eql), [.l 37, .k (.m (.i .u8 111))], some (.l 34, false)⟩,
    ⟨.l 39, .p .pick, [.l 34, .k (.m (.b true)), .l 38], some (.l 29, true)⟩,
    ⟨.l 40, .p .mv, [.l 39], some (.l 29, true)⟩,
    ⟨.l 41, .p .mv, [.v 0], some (.l 40, false)⟩,
    ⟨.l 42, .p .ixs, [.l 41, .k (.m (.i .i64 1))], some (.l 40, false)⟩,
    ⟨.l 43, .l (.cal 150), [.l 42], some (.l 40, false)⟩,
    ⟨.l 44, .p (.bin .eql), [.l 43, .k (.m (.i .u8 120))], some (.l 40, false)⟩,
    ⟨.l 45, .p .pick, [.l 40, .k (.m (.b true)), .l 44], some (.l 29, true)⟩,
    ⟨.v 46, .p .pick, [.l 29, .l 45, .k (.m (.b false))], none⟩])
  (.ite (.v 46)
    (.seq
    (.reg [⟨.v 4, .p .mv, [.k (.m (.i .i64 2))], none⟩])
    (.seq
    (.reg [⟨.v 3, .p .mv, [.k (.m (.i .i32 48))], none⟩])
    (.reg [⟨.l 47, .p .mv, [.v 0], none⟩,
      ⟨.l 48, .p .ixs, [.l 47, .k (.m (.i .i64 1))], none⟩,
      ⟨.l 49, .l (.cal 150), [.l 48], none⟩,
      ⟨.l 50, .p (.bin .eql), [.l 49, .k (.m (.i .u8 120))], none⟩,
      ⟨.v 5, .p .mv, [.l 50], none⟩])))
    .skip))
  (.seq
  (.blk 0
  c151_L0)
  (.seq
  (.reg [⟨.l 92, .p .mv, [.v 3], none⟩,
    ⟨.l 93, .p (.bin .neq), [.l 92, .k (.m (.i .i32 95))], none⟩,
    ⟨.v 2, .p .mv, [.l 93], none⟩])
  .ret))))))))⟩

/- internal/bytealg.hashStr[string] -/
def c153_B0 : C :=
  (.seq
  (.seq
  (.reg [⟨.l 9, .p .mv, [.v 5], none⟩,
    ⟨.l 10, .p .mv, [.v 0], none⟩,
    ⟨.l 11, .p (.len true), [.l 10], none⟩,
    ⟨.v 12, .p (.bin .lss), [.l 9, .l 11], none⟩])
  (.ite (.v 12)
    .skip
    (.ex 0)))
  (.seq
  (.blk 1
  (.reg [⟨.l 15, .p .mv, [.v 4], none⟩,
    ⟨.l 16, .p (.bin .mul), [.l 15, .k (.m (.i .u32 16777619))], none⟩,
    ⟨.l 17, .p .mv, [.v 0], none⟩,
    ⟨.l 18, .p .mv, [.v 5], none⟩,
    ⟨.l 19, .p .ixs, [.l 17, .l 18], none⟩,
    ⟨.l 20, .p (.cv .u32), [.l 19], none⟩,
    ⟨.l 21, .p (.bin .add), [.l 16, .l 20], none⟩,
    ⟨.v 4, .p .mv, [.l 21], none⟩]))
  (.reg [⟨.l 13, .p .mv, [.v 5], none⟩,
    ⟨.l 14, .p (.bin .add), [.l 13, .k (.m (.i .i64 1))], none⟩,
    ⟨.v 5, .p .mv, [.l 14], none⟩])))
def c153_L0 : C := .loop [2, 3, 12] c153_B0
def c153_B1 : C :=
  (.seq
  (.seq
  (.reg [⟨.l 24, .p .mv, [.v 8], none⟩,
    ⟨.v 25, .p (.bin .gtr), [.l 24, .k (.m (.i .i64 0))], none⟩])
  (.ite (.v 25)
    .skip
    (.ex 2)))
  (.seq
  (.blk 3
  (.seq
  (.seq
  (.reg [⟨.l 28, .p .mv, [.v 8], none⟩,
    ⟨.l 29, .p (.bin .and), [.l 28, .k (.m (.i .i64 1))], none⟩,
    ⟨.v 30, .p (.bin .neq), [.l 29, .k (.m (.i .i64 0))], none⟩])
  (.ite (.v 30)
    (.reg [⟨.l 31, .p .mv, [.v 6], none⟩,
      ⟨.l 32, .p .mv, [.v 7], none⟩,
      ⟨.l 33, .p (.bin .mul), [.l 31, .l 32], none⟩,
      ⟨.v 6, .p .mv, [.l 33], none⟩])
    .skip))
  (.reg [⟨.l 34, .p .mv, [.v 7], none⟩,
    ⟨.l 35, .p .mv, [.v 7], none⟩,
    ⟨.l 36, .p (.bin .mul), [.l 34, .l 35], none⟩,
    ⟨.v 7, .p .mv, [.l 36], none⟩])))
  (.reg [⟨.l 26, .p .mv, [.v 8], none⟩,
    ⟨.l 27, .p (.bin .shr), [.l 26, .k (.m (.i .u64 1))], none⟩,
    ⟨.v 8, .p .mv, [.l 27], none⟩])))
def c153_L1 : C := .loop [0, 5, 12, 25, 30] c153_B1
def c153 : F := ⟨1, [.t 2, .t 3],
  (.seq
  (.reg [⟨.v 2, .p .mv, [.k (.m (.i .u32 0))], none⟩,
    ⟨.v 3, .p .mv, [.k (.m (.i .u32 0))], none⟩])
  (.seq
  (.reg [⟨.v 4, .p .mv, [.k (.m (.i .u32 0))], none⟩])
  (.seq
  (.seq
  (.reg [⟨.v 5, .p .mv, [.k (.m (.i .i64 0))], none⟩])
  (.blk 0
  c153_L0))
  (.seq
  (.reg [⟨.v 6, .p .mv, [.k (.m (.i .u32 1))], none⟩,
    ⟨.v 7, .p .mv, [.k (.m (.i .u32 16777619))], none⟩])
  (.seq
  (.seq
  (.reg [⟨.l 22, .p .mv, [.v 0], none⟩,
    ⟨.l 23, .p (.len true), [.l 22], none⟩,
    ⟨.v 8, .p .mv, [.l 23], none⟩])
  (.blk 2
  c153_L1))
  (.seq
  (.reg [⟨.l 37, .p .mv, [.v 4], none⟩,
    ⟨.l 38, .p .mv, [.v 6], none⟩,
    ⟨.v 2, .p .mv, [.l 37], none⟩,
    ⟨.v 3, .p .mv, [.l 38], none⟩])
  .ret))))))⟩

/- gosem.cut.vars -/
def c183 : F := ⟨0, [],
  (.seq
  (.reg [⟨.l 0, .p (.build [.m (.i .u8 0), .m (.i .u8 0), .m (.i .u8 0), .m (.i .u8 0), .m (.i .u8 0), .m (.i .u8 0), .m (.i .u8 0), .m (.i .u8 0), .m (.i .u8 0), .m (.i .u8 0), .m (.i .u8 0), .m (.i .u8 0), .m (.i .u8 0), .m (.i .u8 0), .m (.i .u8 0), .m (.i .u8 0), .m (.i .u8 0), .m (.i .u8 0), .m (.i .u8 0), .m (.i .u8 0), .m (.i .u8 0), .m (.i .u8 0), .m (.i .u8 0), .m (.i .u8 0), .m (.i .u8 0), .m (.i .u8 0), .m (.i .u8 0), .m (.i .u8 0), .m (.i .u8 0), .m (.i .u8 0), .m (.i .u8 0), .m (.i .u8 0)] [(0, 1), (1, 1), (2, 1), (3, 1), (4, 1), (5, 1), (6, 1), (7, 1), (8, 1), (9, 1), (10, 1), (11, 1), (12, 1), (13, 1), (14, 1), (15, 1), (16, 1), (17, 1), (18, 1), (19, 1), (20, 1), (21, 1), (22, 1), (23, 1), (24, 1), (25, 1), (26, 1), (27, 1), (28, 1), (29, 1), (30, 1), (31, 1)]), [.k (.m (.i .u8 0)), .k (.m (.i .u8 1)), .k (.m (.i .u8 28)), .k (.m (.i .u8 2)), .k (.m (.i .u8 29)), .k (.m (.i .u8 14)), .k (.m (.i .u8 24)), .k (.m (.i .u8 3)), .k (.m (.i .u8 30)), .k (.m (.i .u8 22)), .k (.m (.i .u8 20)), .k (.m (.i .u8 15)), .k (.m (.i .u8 25)), .k (.m (.i .u8 17)), .k (.m (.i .u8 4)), .k (.m (.i .u8 8)), .k (.m (.i .u8 31)), .k (.m (.i .u8 27)), .k (.m (.i .u8 13)), .k (.m (.i .u8 23)), .k (.m (.i .u8 21)), .k (.m (.i .u8 19)), .k (.m (.i .u8 16)), .k (.m (.i .u8 7)), .k (.m (.i .u8 26)), .k (.m (.i .u8 12)), .k (.m (.i .u8 18)), .k (.m (.i .u8 6)), .k (.m (.i .u8 11)), .k (.m (.i .u8 5)), .k (.m (.i .u8 10)), .k (.m (.i .u8 9))], none⟩,
    ⟨.no, .l (.st 32), [.k (.m (.pt g6)), .l 0], none⟩])
  (.seq
  (.reg [⟨.l 1, .p (.build [.m (.i .u8 0), .m (.i .u8 0), .m (.i .u8 0), .m (.i .u8 0), .m (.i .u8 0), .m (.i .u8 0), .m (.i .u8 0), .m (.i .u8 0), .m (.i .u8 0), .m (.i .u8 0), .m (.i .u8 0), .m (.i .u8 0), .m (.i .u8 0), .m (.i .u8 0), .m (.i .u8 0), .m (.i .u8 0), .m (.i .u8 0), .m (.i .u8 0), .m (.i .u8 0), .m (.i .u8 0), .m (.i .u8 0), .m (.i .u8 0), .m (.i .u8 0), .m (.i .u8 0), .m (.i .u8 0), .m (.i .u8 0), .m (.i .u8 0), .m (.i .u8 0), .m (.i .u8 0), .m (.i .u8 0), .m (.i .u8 0), .m (.i .u8 0), .m (.i .u8 0), .m (.i .u8 0), .m (.i .u8 0), .m (.i .u8 0), .m (.i .u8 0), .m (.i .u8 0), .m (.i .u8 0), .m (.i .u8 0), .m (.i .u8 0), .m (.i .u8 0), .m (.i .u8 0), .m (.i .u8 0), .m (.i .u8 0), .m (.i .u8 0), .m (.i .u8 0), .m (.i .u8 0), .m (.i .u8 0), .m (.i .u8 0), .m (.i .u8 0), .m (.i .u8 0), .m (.i .u8 0), .m (.i .u8 0), .m (.i .u8 0), .m (.i .u8 0), .m (.i .u8 0), .m (.i .u8 0), .m (.i .u8 0), .m (.i .u8 0), .m (.i .u8 0), .m (.i .u8 0), .m (.i .u8 0), .m (.i .u8 0)] [(0, 1), (1, 1), (2, 1), (3, 1), (4, 1), (5, 1), (6, 1), (7, 1), (8, 1), (9, 1), (10, 1), (11, 1), (12, 1), (13, 1), (14, 1), (15, 1), (16, 1), (17, 1), (18, 1), (19, 1), (20, 1), (21, 1), (22, 1), (23, 1), (24, 1), (25, 1), (26, 1), (27, 1), (28, 1), (29, 1), (30, 1), (31, 1), (32, 1), (33, 1), (34, 1), (35, 1), (36, 1), (37, 1), (38, 1), (39, 1), (40, 1), (41, 1), (42, 1), (43, 1), (44, 1), (45, 1), (46, 1), (47, 1), (48, 1), (49, 1), (50, 1), (51, 1), (52, 1), (53, 1), (54, 1), (55, 1), (56, 1), (57, 1), (58, 1), (59, 1), (60, 1), (61, 1), (62, 1), (63, 1)]), [.k (.m (.i .u8 0)), .k (.m (.i .u8 1)), .k (.m (.i .u8 56)), .k (.m (.i .u8 2)), .k (.m (.i .u8 57)), .k (.m (.i .u8 49)), .k (.m (.i .u8 28)), .k (.m (.i .u8 3)), .k (.m (.i .u8 61)), .k (.m (.i .u8 58)), .k (.m (.i .u8 42)), .k (.m (.i .u8 50)), .k (.m (.i .u8 38)), .k (.m (.i .u8 29)), .k (.m (.i .u8 17)), .k (.m (.i .u8 4)), .k (.m (.i .u8 62)), .k (.m (.i .u8 47)), .k (.m (.i .u8 59)), .k (.m (.i .u8 36)), .k (.m (.i .u8 45)), .k (.m (.i .u8 43)), .k (.m (.i .u8 51)), .k (.m (.i .u8 22)), .k (.m (.i .u8 53)), .k (.m (.i .u8 39)), .k (.m (.i .u8 33)), .k (.m (.i .u8 30)), .k (.m (.i .u8 24)), .k (.m (.i .u8 18)), .k (.m (.i .u8 12)), .k (.m (.i .u8 5)), .k (.m (.i .u8 63)), .k (.m (.i .u8 55)), .k (.m (.i .u8 48)), .k (.m (.i .u8 27)), .k (.m (.i .u8 60)), .k (.m (.i .u8 41)), .k (.m (.i .u8 37)), .k (.m (.i .u8 16)), .k (.m (.i .u8 46)), .k (.m (.i .u8 35)), .k (.m (.i .u8 44)), .k (.m (.i .u8 21)), .k (.m (.i .u8 52)), .k (.m (.i .u8 32)), .k (.m (.i .u8 23)), .k (.m (.i .u8 11)), .k (.m (.i .u8 54)), .k (.m (.i .u8 26)), .k (.m (.i .u8 40)), .k (.m (.i .u8 15)), .k (.m (.i .u8 34)), .k (.m (.i .u8 20)), .k (.m (.i .u8 31)), .k (.m (.i .u8 10)), .k (.m (.i .u8 25)), .k (.m (.i .u8 14)), .k (.m (.i .u8 19)), .k (.m (.i .u8 9)), .k (.m (.i .u8 13)), .k (.m (.i .u8 8)), .k (.m (.i .u8 7)), .k (.m (.i .u8 6))], none⟩,
    ⟨.no, .l (.st 64), [.k (.m (.pt g7)), .l 1], none⟩])
  (.seq
  (.reg [⟨.l 2, .p (.build [.m (.i .u64 0), .m (.i .u64 0), .m (.i .u64 0), .m (.i .u64 0), .m (.i .u64 0), .m (.i .u64 0), .m (.i .u64 0), .m (.i .u64 0), .m (.i .u64 0), .m (.i .u64 0), .m (.i .u64 0), .m (.i .u64 0), .m (.i .u64 0), .m (.i .u64 0), .m (.i .u64 0), .m (.i .u64 0), .m (.i .u64 0), .m (.i .u64 0), .m (.i .u64 0), .m (.i .u64 0)] [(0, 1), (1, 1), (2, 1), (3, 1), (4, 1), (5, 1), (6, 1), (7, 1), (8, 1), (9, 1), (10, 1), (11, 1), (12, 1), (13, 1), (14, 1), (15, 1), (16, 1), (17, 1), (18, 1), (19, 1)]), [.k (.m (.i .u64 1)), .k (.m (.i .u64 10)), .k (.m (.i .u64 100)), .k (.m (.i .u64 1000)), .k (.m (.i .u64 10000)), .k (.m (.i .u64 100000)), .k (.m (.i .u64 1000000)), .k (.m (.i .u64 10000000)), .k (.m (.i .u64 100000000)), .k (.m (.i .u64 1000000000)), .k (.m (.i .u64 10000000000)), .k (.m (.i .u64 100000000000)), .k (.m (.i .u64 1000000000000)), .k (.m (.i .u64 10000000000000)), .k (.m (.i .u64 100000000000000)), .k (.m (.i .u64 1000000000000000)), .k (.m (.i .u64 10000000000000000)), .k (.m (.i .u64 100000000000000000)), .k (.m (.i .u64 1000000000000000000)), .k (.m (.i .u64 10000000000000000000))], none⟩,
    ⟨.no, .l (.st 20), [.k (.m (.pt g0)), .l 2], none⟩])
  (.seq
  (.reg [⟨.l 3, .p (.build [.m (.i .u8 0), .m (.i .u8 0)] [(0, 1), (1, 1)]), [.k (.m (.i .u8 128)), .k (.m (.i .u8 191))], none⟩,
    ⟨.l 4, .p (.build [.m (.i .u8 0), .m (.i .u8 0)] [(0, 1), (1, 1)]), [.k (.m (.i .u8 160)), .k (.m (.i .u8 191))], none⟩,
    ⟨.l 5, .p (.build [.m (.i .u8 0), .m (.i .u8 0)] [(0, 1), (1, 1)]), [.k (.m (.i .u8 128)), .k (.m (.i .u8 159))], none⟩,
    ⟨.l 6, .p (.build [.m (.i .u8 0), .m (.i .u8 0)] [(0, 1), (1, 1)]), [.k (.m (.i .u8 144)), .k (.m (.i .u8 191))], none⟩,
    ⟨.l 7, .p (.build [.m (.i .u8 0), .m (.i .u8 0)] [(0, 1), (1, 1)]), [.k (.m (.i .u8 128)), .k (.m (.i .u8 143))], none⟩,
    ⟨.l 8, .p (.build [.m (.i .u8 0), .m (.i .u8 0), .m (.i .u8 0), .m (.i .u8 0), .m (.i .u8 0), .m (.i .u8 0), .m (.i .u8 0), .m (.i .u8 0), .m (.i .u8 0), .m (.i .u8 0), .m (.i .u8 0), .m (.i .u8 0), .m (.i .u8 0), .m (.i .u8 0), .m (.i .u8 0), .m (.i .u8 0), .m (.i .u8 0), .m (.i .u8 0), .m (.i .u8 0), .m (.i .u8 0), .m (.i .u8 0), .m (.i .u8 0), .m (.i .u8 0), .m (.i .u8 0), .m (.i .u8 0), .m (.i .u8 0), .m (.i .u8 0), .m (.i .u8 0), .m (.i .u8 0), .m (.i .u8 0), .m (.i .u8 0), .m (.i .u8 0)] [(0, 2), (2, 2), (4, 2), (6, 2), (8, 2)]), [.l 3, .l 4, .l 5, .l 6, .l 7], none⟩,
    ⟨.no, .p .mv, [], none⟩])
  (.seq
  (.reg [⟨.l 9, .l (.cal 143), [.k (.m (.s [118, 97, 108, 117, 101, 32, 111, 117, 116, 32, 111, 102, 32, 114, 97, 110, 103, 101]))], none⟩,
    ⟨.no, .p .mv, [], none⟩])
  (.reg [⟨.l 10, .l (.cal 143), [.k (.m (.s [105, 110, 118, 97, 108, 105, 100, 32, 115, 121, 110, 116, 97, 120]))], none⟩,
    ⟨.no, .p .mv, [], none⟩]))))))⟩


end Go.Mx.Tryz
