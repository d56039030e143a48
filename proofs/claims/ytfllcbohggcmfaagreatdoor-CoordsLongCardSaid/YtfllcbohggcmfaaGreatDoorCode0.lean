/- The compact code of the functions of this seat, printed by a program of my own; XComp checks it against the translation. -/
import Derived.Test.YtfllcbohggcmfaaGreatDoorRng
set_option maxRecDepth 100000
namespace Go.Mx.Tryz

/- cellular/cellularlaw32.CoordsLong -/
def c4_B0 : C :=
  (.seq
  (.seq
  (.reg [⟨.l 24, .p .mv, [.v 5], none⟩,
    ⟨.l 25, .p (.len true), [.l 24], none⟩,
    ⟨.v 26, .p (.bin .leq), [.l 25, .k (.m (.i .i64 65536))], none⟩])
  (.ite (.v 26)
    .skip
    (.ex 0)))
  (.blk 1
  (.reg [⟨.l 27, .p .mv, [.v 5], none⟩,
    ⟨.l 28, .p .mv, [.v 0], none⟩,
    ⟨.l 29, .p (.bin .add), [.l 27, .l 28], none⟩,
    ⟨.l 30, .p .mv, [.v 5], none⟩,
    ⟨.l 31, .p (.bin .add), [.l 29, .l 30], none⟩,
    ⟨.v 5, .p .mv, [.l 31], none⟩])))
def c4_L0 : C := .loop [4, 22, 26] c4_B0
def c4_B1 : C :=
  (.seq
  (.seq
  (.reg [⟨.l 54, .p .mv, [.v 11], none⟩,
    ⟨.l 55, .p .mv, [.v 9], none⟩,
    ⟨.v 56, .p (.bin .lss), [.l 54, .l 55], none⟩])
  (.ite (.v 56)
    .skip
    (.ex 2)))
  (.seq
  (.blk 3
  (.reg [⟨.l 59, .p .mv, [.v 10], none⟩,
    ⟨.l 60, .p .mv, [.v 11], none⟩,
    ⟨.l 61, .l (.cal 13), [.l 60], none⟩,
    ⟨.l 62, .p (.bin .add), [.l 61, .k (.m (.s [32, 55, 10]))], none⟩,
    ⟨.l 63, .l (.app 5 1 1), [.l 59, .l 62], none⟩,
    ⟨.v 10, .p .mv, [.l 63], none⟩]))
  (.reg [⟨.l 57, .p .mv, [.v 11], none⟩,
    ⟨.l 58, .p (.bin .add), [.l 57, .k (.m (.i .i64 1))], none⟩,
    ⟨.v 11, .p .mv, [.l 58], none⟩])))
def c4_L1 : C := .loop [0, 1, 5, 6, 7, 8, 26, 48, 56] c4_B1
def c4 : F := ⟨2, [.t 4],
  (.seq
  (.reg [⟨.v 4, .p .mv, [.k (.m (.b false))], none⟩])
  (.seq
  (.seq
  (.reg [⟨.l 15, .p .mv, [.v 0], none⟩,
    ⟨.l 16, .p (.len true), [.l 15], none⟩,
    ⟨.l 17, .p (.bin .gtr), [.l 16, .k (.m (.i .i64 20))], none⟩,
    ⟨.l 18, .p .mv, [.l 17], none⟩,
    ⟨.l 19, .p .mv, [.v 0], some (.l 18, false)⟩,
    ⟨.l 20, .p (.len true), [.l 19], some (.l 18, false)⟩,
    ⟨.l 21, .p (.bin .eql), [.l 20, .k (.m (.i .i64 0))], some (.l 18, false)⟩,
    ⟨.v 22, .p .pick, [.l 18, .k (.m (.b true)), .l 21], none⟩])
  (.ite (.v 22)
    (.seq
    (.reg [⟨.l 23, .l (.cal 9), [], none⟩,
      ⟨.v 4, .p .mv, [.l 23], none⟩])
    .ret)
    .skip))
  (.seq
  (.reg [⟨.v 5, .p .mv, [.k (.m (.s [35, 99, 101, 108, 108, 115, 10]))], none⟩])
  (.seq
  (.blk 0
  c4_L0)
  (.seq
  (.reg [⟨.l 33, .p .mv, [.v 5], none⟩,
    ⟨.l 34, .l (.cal 10), [.l 33], none⟩,
    ⟨.l 32, .p .mv, [.l 34], none⟩,
    ⟨.l 35, .p (.ext 0), [.l 32], none⟩,
    ⟨.l 36, .p (.ext 1), [.l 32], none⟩,
    ⟨.l 37, .p (.ext 2), [.l 32], none⟩,
    ⟨.v 6, .p .mv, [.l 35], none⟩,
    ⟨.v 7, .p .mv, [.l 36], none⟩,
    ⟨.v 8, .p .mv, [.l 37], none⟩])
  (.seq
  (.seq
  (.reg [⟨.l 38, .p .mv, [.v 8], none⟩,
    ⟨.l 39, .p (.bin .neq), [.l 38, .k (.m (.i .i64 6))], none⟩,
    ⟨.l 40, .p .mv, [.l 39], none⟩,
    ⟨.l 41, .p .mv, [.v 7], some (.l 40, false)⟩,
    ⟨.l 42, .p (.bin .neq), [.l 41, .k (.m (.i .i64 0))], some (.l 40, false)⟩,
    ⟨.l 43, .p .pick, [.l 40, .k (.m (.b true)), .l 42], none⟩,
    ⟨.l 44, .p .mv, [.l 43], none⟩,
    ⟨.l 45, .p .mv, [.v 6], some (.l 44, false)⟩,
    ⟨.l 46, .p (.len false), [.l 45], some (.l 44, false)⟩,
    ⟨.l 47, .p (.bin .neq), [.l 46, .k (.m (.i .i64 0))], some (.l 44, false)⟩,
    ⟨.v 48, .p .pick, [.l 44, .k (.m (.b true)), .l 47], none⟩])
  (.ite (.v 48)
    (.seq
    (.reg [⟨.v 4, .p .mv, [.k (.m (.b false))], none⟩])
    .ret)
    .skip))
  (.seq
  (.reg [⟨.l 49, .p .mv, [.v 1], none⟩,
    ⟨.l 50, .p (.cv .i64), [.l 49], none⟩,
    ⟨.l 51, .p (.bin .rem), [.l 50, .k (.m (.i .i64 5100))], none⟩,
    ⟨.v 9, .p .mv, [.l 51], none⟩])
  (.seq
  (.reg [⟨.l 52, .l (.bsw 5 1 [.m (.i .u8 0)] 7 [0, 1, 2, 3, 4, 5, 6]), [.k (.m (.i .u8 35)), .k (.m (.i .u8 99)), .k (.m (.i .u8 101)), .k (.m (.i .u8 108)), .k (.m (.i .u8 108)), .k (.m (.i .u8 115)), .k (.m (.i .u8 10))], none⟩,
    ⟨.l 53, .l .s2w, [.l 52], none⟩,
    ⟨.v 10, .p .mv, [.l 53], none⟩])
  (.seq
  (.seq
  (.reg [⟨.v 11, .p .mv, [.k (.m (.i .i64 0))], none⟩])
  (.blk 2
  c4_L1))
  (.seq
  (.reg [⟨.l 65, .p .mv, [.v 10], none⟩,
    ⟨.l 66, .r .b2s, [.l 65], none⟩,
    ⟨.l 67, .l (.cal 10), [.l 66], none⟩,
    ⟨.l 64, .p .mv, [.l 67], none⟩,
    ⟨.l 68, .p (.ext 0), [.l 64], none⟩,
    ⟨.l 69, .p (.ext 1), [.l 64], none⟩,
    ⟨.l 70, .p (.ext 2), [.l 64], none⟩,
    ⟨.v 12, .p .mv, [.l 68], none⟩,
    ⟨.v 13, .p .mv, [.l 69], none⟩,
    ⟨.v 14, .p .mv, [.l 70], none⟩])
  (.seq
  (.seq
  (.reg [⟨.l 71, .p .mv, [.v 9], none⟩,
    ⟨.v 72, .p (.bin .gtr), [.l 71, .k (.m (.i .i64 5000))], none⟩])
  (.ite (.v 72)
    (.seq
    (.reg [⟨.l 73, .p .mv, [.v 14], none⟩,
      ⟨.l 74, .p (.bin .eql), [.l 73, .k (.m (.i .i64 6))], none⟩,
      ⟨.l 75, .p .mv, [.l 74], none⟩,
      ⟨.l 76, .p .mv, [.v 13], some (.l 75, true)⟩,
      ⟨.l 77, .p (.bin .eql), [.l 76, .k (.m (.i .i64 5002))], some (.l 75, true)⟩,
      ⟨.l 78, .p .pick, [.l 75, .l 77, .k (.m (.b false))], none⟩,
      ⟨.l 79, .p .mv, [.l 78], none⟩,
      ⟨.l 80, .p .mv, [.v 12], some (.l 79, true)⟩,
      ⟨.l 81, .p (.len false), [.l 80], some (.l 79, true)⟩,
      ⟨.l 82, .p (.bin .eql), [.l 81, .k (.m (.i .i64 0))], some (.l 79, true)⟩,
      ⟨.l 83, .p .pick, [.l 79, .l 82, .k (.m (.b false))], none⟩,
      ⟨.l 84, .p .mv, [.l 83], none⟩,
      ⟨.l 85, .l (.cal 9), [], some (.l 84, true)⟩,
      ⟨.l 86, .p .pick, [.l 84, .l 85, .k (.m (.b false))], none⟩,
      ⟨.v 4, .p .mv, [.l 86], none⟩])
    .ret)
    .skip))
  (.seq
  (.reg [⟨.l 87, .p .mv, [.v 14], none⟩,
    ⟨.l 88, .p (.bin .eql), [.l 87, .k (.m (.i .i64 0))], none⟩,
    ⟨.l 89, .p .mv, [.l 88], none⟩,
    ⟨.l 90, .p .mv, [.v 13], some (.l 89, true)⟩,
    ⟨.l 91, .p (.bin .eql), [.l 90, .k (.m (.i .i64 0))], some (.l 89, true)⟩,
    ⟨.l 92, .p .pick, [.l 89, .l 91, .k (.m (.b false))], none⟩,
    ⟨.l 93, .p .mv, [.l 92], none⟩,
    ⟨.l 94, .p .mv, [.v 12], some (.l 93, true)⟩,
    ⟨.l 95, .p (.len false), [.l 94], some (.l 93, true)⟩,
    ⟨.l 96, .p .mv, [.v 9], some (.l 93, true)⟩,
    ⟨.l 97, .p (.bin .eql), [.l 95, .l 96], some (.l 93, true)⟩,
    ⟨.l 98, .p .pick, [.l 93, .l 97, .k (.m (.b false))], none⟩,
    ⟨.l 99, .p .mv, [.l 98], none⟩,
    ⟨.l 100, .l (.cal 9), [], some (.l 99, true)⟩,
    ⟨.l 101, .p .pick, [.l 99, .l 100, .k (.m (.b false))], none⟩,
    ⟨.v 4, .p .mv, [.l 101], none⟩])
  .ret))))))))))))⟩

/- cellular/cellularlaw32.alive -/
def c9 : F := ⟨0, [.t 0],
  (.seq
  (.reg [⟨.v 0, .p .mv, [.k (.m (.b false))], none⟩])
  (.seq
  (.reg [⟨.l 12, .p (.build [.m (.i .i64 0), .m (.i .i64 0), .m (.i .i64 0)] [(0, 1), (2, 1)]), [.k (.m (.i .i64 1)), .k (.m (.i .i64 1))], none⟩,
    ⟨.l 13, .p (.build [.m (.i .i64 0), .m (.i .i64 0), .m (.i .i64 0)] [(1, 1), (2, 1)]), [.k (.m (.i .i64 2)), .k (.m (.i .i64 3))], none⟩,
    ⟨.l 14, .p (.bsl 3 [.m (.i .i64 0), .m (.i .i64 0), .m (.i .i64 0)] 2 [0, 1]), [.l 12, .l 13], none⟩,
    ⟨.v 1, .p .mv, [.l 14], none⟩])
  (.seq
  (.reg [⟨.l 16, .p .mv, [.v 1], none⟩,
    ⟨.l 17, .l (.cal 14), [.l 16], none⟩,
    ⟨.l 15, .p .mv, [.l 17], none⟩,
    ⟨.l 18, .p (.ext 0), [.l 15], none⟩,
    ⟨.l 19, .p (.ext 1), [.l 15], none⟩,
    ⟨.v 2, .p .mv, [.l 18], none⟩,
    ⟨.v 3, .p .mv, [.l 19], none⟩])
  (.seq
  (.reg [⟨.l 21, .l (.cal 10), [.k (.m (.s [35, 99, 101, 108, 108, 115, 10, 48, 32, 50, 32, 51, 10, 10, 35, 32, 97, 32, 99, 111, 109, 109, 101, 110, 116, 10, 49, 32, 48]))], none⟩,
    ⟨.l 20, .p .mv, [.l 21], none⟩,
    ⟨.l 22, .p (.ext 0), [.l 20], none⟩,
    ⟨.l 23, .p (.ext 1), [.l 20], none⟩,
    ⟨.l 24, .p (.ext 2), [.l 20], none⟩,
    ⟨.v 4, .p .mv, [.l 22], none⟩,
    ⟨.v 5, .p .mv, [.l 23], none⟩,
    ⟨.v 6, .p .mv, [.l 24], none⟩])
  (.seq
  (.reg [⟨.l 26, .l (.cal 10), [.k (.m (.s [35, 99, 101, 108, 108, 115, 10, 49, 10, 50, 32, 50, 10]))], none⟩,
    ⟨.l 25, .p .mv, [.l 26], none⟩,
    ⟨.l 27, .p (.ext 0), [.l 25], none⟩,
    ⟨.l 28, .p (.ext 1), [.l 25], none⟩,
    ⟨.l 29, .p (.ext 2), [.l 25], none⟩,
    ⟨.l 7, .p .mv, [.l 27], none⟩,
    ⟨.v 8, .p .mv, [.l 28], none⟩,
    ⟨.v 9, .p .mv, [.l 29], none⟩])
  (.seq
  (.reg [⟨.l 31, .p (.build [.m (.i .i64 0), .m (.i .i64 0), .m (.i .i64 0)] [(2, 1)]), [.k (.m (.i .i64 0))], none⟩,
    ⟨.l 32, .p (.bsl 3 [.m (.i .i64 0), .m (.i .i64 0), .m (.i .i64 0)] 1 [0]), [.l 31], none⟩,
    ⟨.l 33, .l (.cal 14), [.l 32], none⟩,
    ⟨.l 30, .p .mv, [.l 33], none⟩,
    ⟨.l 34, .p (.ext 0), [.l 30], none⟩,
    ⟨.l 35, .p (.ext 1), [.l 30], none⟩,
    ⟨.l 10, .p .mv, [.l 34], none⟩,
    ⟨.v 11, .p .mv, [.l 35], none⟩])
  (.seq
  (.reg [⟨.l 36, .p .mv, [.v 3], none⟩,
    ⟨.l 37, .p (.bin .eql), [.l 36, .k (.m (.i .i64 0))], none⟩,
    ⟨.l 38, .p .mv, [.l 37], none⟩,
    ⟨.l 39, .p .mv, [.v 2], some (.l 38, true)⟩,
    ⟨.l 40, .p (.bin .eql), [.l 39, .k (.m (.s [35, 99, 101, 108, 108, 115, 10, 49, 32, 48, 10, 48, 32, 50, 32, 51, 10]))], some (.l 38, true)⟩,
    ⟨.l 41, .p .pick, [.l 38, .l 40, .k (.m (.b false))], none⟩,
    ⟨.l 42, .p .mv, [.l 41], none⟩,
    ⟨.l 43, .p .mv, [.v 6], some (.l 42, true)⟩,
    ⟨.l 44, .p (.bin .eql), [.l 43, .k (.m (.i .i64 0))], some (.l 42, true)⟩,
    ⟨.l 45, .p .pick, [.l 42, .l 44, .k (.m (.b false))], none⟩,
    ⟨.l 46, .p .mv, [.l 45], none⟩,
    ⟨.l 47, .p .mv, [.v 5], some (.l 46, true)⟩,
    ⟨.l 48, .p (.bin .eql), [.l 47, .k (.m (.i .i64 0))], some (.l 46, true)⟩,
    ⟨.l 49, .p .pick, [.l 46, .l 48, .k (.m (.b false))], none⟩,
    ⟨.l 50, .p .mv, [.l 49], none⟩,
    ⟨.l 51, .p .mv, [.v 1], some (.l 50, true)⟩,
    ⟨.l 52, .p .mv, [.v 4], some (.l 50, true)⟩,
    ⟨.l 53, .l (.cal 12), [.l 51, .l 52], some (.l 50, true)⟩,
    ⟨.l 54, .p .pick, [.l 50, .l 53, .k (.m (.b false))], none⟩,
    ⟨.l 55, .p .mv, [.l 54], none⟩,
    ⟨.l 56, .p .mv, [.v 8], some (.l 55, true)⟩,
    ⟨.l 57, .p (.bin .eql), [.l 56, .k (.m (.i .i64 2))], some (.l 55, true)⟩,
    ⟨.l 58, .p .pick, [.l 55, .l 57, .k (.m (.b false))], none⟩,
    ⟨.l 59, .p .mv, [.l 58], none⟩,
    ⟨.l 60, .p .mv, [.v 9], some (.l 59, true)⟩,
    ⟨.l 61, .p (.bin .eql), [.l 60, .k (.m (.i .i64 15))], some (.l 59, true)⟩,
    ⟨.l 62, .p .pick, [.l 59, .l 61, .k (.m (.b false))], none⟩,
    ⟨.l 63, .p .mv, [.l 62], none⟩,
    ⟨.l 64, .p .mv, [.v 11], some (.l 63, true)⟩,
    ⟨.l 65, .p (.bin .eql), [.l 64, .k (.m (.i .i64 2))], some (.l 63, true)⟩,
    ⟨.l 66, .p .pick, [.l 63, .l 65, .k (.m (.b false))], none⟩,
    ⟨.l 67, .p .mv, [.l 66], none⟩,
    ⟨.l 68, .l (.cal 16), [.k (.m (.s [51, 111, 33]))], some (.l 67, true)⟩,
    ⟨.l 69, .p (.bin .eql), [.l 68, .k (.m (.i .i64 1))], some (.l 67, true)⟩,
    ⟨.l 70, .p .pick, [.l 67, .l 69, .k (.m (.b false))], none⟩,
    ⟨.l 71, .p .mv, [.l 70], none⟩,
    ⟨.l 72, .l (.cal 16), [.k (.m (.s [46, 79, 46]))], some (.l 71, true)⟩,
    ⟨.l 73, .p (.bin .eql), [.l 72, .k (.m (.i .i64 2))], some (.l 71, true)⟩,
    ⟨.l 74, .p .pick, [.l 71, .l 73, .k (.m (.b false))], none⟩,
    ⟨.l 75, .p .mv, [.l 74], none⟩,
    ⟨.l 76, .p .mv, [.v 2], some (.l 75, true)⟩,
    ⟨.l 77, .l (.cal 16), [.l 76], some (.l 75, true)⟩,
    ⟨.l 78, .p (.bin .eql), [.l 77, .k (.m (.i .i64 3))], some (.l 75, true)⟩,
    ⟨.l 79, .p .pick, [.l 75, .l 78, .k (.m (.b false))], none⟩,
    ⟨.l 80, .p .mv, [.l 79], none⟩,
    ⟨.l 81, .l (.cal 16), [.k (.m (.s []))], some (.l 80, true)⟩,
    ⟨.l 82, .p (.bin .eql), [.l 81, .k (.m (.i .i64 0))], some (.l 80, true)⟩,
    ⟨.l 83, .p .pick, [.l 80, .l 82, .k (.m (.b false))], none⟩,
    ⟨.v 0, .p .mv, [.l 83], none⟩])
  .ret)))))))⟩

/- cellular/coords.Parse -/
def c10_A0 : C :=
  (.seq
  (.reg [⟨.v 7, .p .mv, [.v 22], none⟩])
  (.reg [⟨.v 8, .p .mv, [.v 23], none⟩]))
def c10_R0 : C :=
  (.blk 1
  (.seq
  (.seq
  (.reg [⟨.l 24, .p .mv, [.v 7], none⟩,
    ⟨.v 25, .p (.bin .eql), [.l 24, .k (.m (.i .i64 1))], none⟩])
  (.ite (.v 25)
    (.seq
    (.seq
    (.reg [⟨.l 26, .p .mv, [.v 8], none⟩,
      ⟨.v 27, .p (.bin .neq), [.l 26, .k (.m (.s [35, 99, 101, 108, 108, 115]))], none⟩])
    (.ite (.v 27)
      (.seq
      (.reg [⟨.no, .l (.st 1), [.v 2, .k (.m (.nl 4))], none⟩,
        ⟨.no, .l (.st 1), [.v 3, .k (.m (.i .i64 1))], none⟩,
        ⟨.no, .l (.st 1), [.v 4, .k (.m (.i .i64 15))], none⟩])
      .ret)
      .skip))
    (.ex 1))
    .skip))
  (.seq
  (.seq
  (.reg [⟨.l 28, .p .mv, [.v 8], none⟩,
    ⟨.l 29, .p (.bin .eql), [.l 28, .k (.m (.s []))], none⟩,
    ⟨.l 30, .p .mv, [.l 29], none⟩,
    ⟨.l 31, .p .mv, [.v 8], some (.l 30, false)⟩,
    ⟨.l 32, .p .ixs, [.l 31, .k (.m (.i .i64 0))], some (.l 30, false)⟩,
    ⟨.l 33, .p (.bin .eql), [.l 32, .k (.m (.i .u8 35))], some (.l 30, false)⟩,
    ⟨.v 34, .p .pick, [.l 30, .k (.m (.b true)), .l 33], none⟩])
  (.ite (.v 34)
    (.ex 1)
    .skip))
  (.seq
  (.reg [⟨.l 36, .p .mv, [.v 8], none⟩,
    ⟨.l 37, .l (.cal 20), [.l 36], none⟩,
    ⟨.l 35, .p .mv, [.l 37], none⟩,
    ⟨.l 38, .p (.ext 0), [.l 35], none⟩,
    ⟨.l 39, .p (.ext 1), [.l 35], none⟩,
    ⟨.v 9, .l (.alp 9 [.m (.i .i64 0), .m (.i .i64 0), .m (.i .i64 0)]), [], none⟩,
    ⟨.no, .l (.st 3), [.v 9, .l 38], none⟩,
    ⟨.v 10, .p .mv, [.l 39], none⟩])
  (.seq
  (.reg [⟨.l 40, .p (.fad 0), [.v 9], none⟩,
    ⟨.l 41, .r (.ld false 1), [.l 40], none⟩,
    ⟨.l 42, .p (.fad 1), [.v 9], none⟩,
    ⟨.l 43, .r (.ld false 1), [.l 42], none⟩,
    ⟨.l 44, .p (.build [.m (.i .i64 0), .m (.i .i64 0)] [(0, 1), (1, 1)]), [.l 41, .l 43], none⟩,
    ⟨.v 11, .l (.alp 11 [.m (.i .i64 0), .m (.i .i64 0)]), [], none⟩,
    ⟨.no, .l (.st 2), [.v 11, .l 44], none⟩])
  (.seq
  (.blk 2
  (.seq
  (.reg [⟨.l 46, .p .mv, [.v 10], none⟩,
    ⟨.l 47, .p (.bin .neq), [.l 46, .k (.m (.i .i64 0))], none⟩,
    ⟨.v 45, .p .mv, [.l 47], none⟩])
  (.ite (.v 45)
    (.seq
    (.reg [⟨.l 48, .p .mv, [.v 7], none⟩,
      ⟨.l 49, .p .mv, [.v 10], none⟩,
      ⟨.no, .l (.st 1), [.v 2, .k (.m (.nl 4))], none⟩,
      ⟨.no, .l (.st 1), [.v 3, .l 48], none⟩,
      ⟨.no, .l (.st 1), [.v 4, .l 49], none⟩])
    .ret)
    (.seq
    (.reg [⟨.l 51, .r (.ld false 1), [.v 5], none⟩,
      ⟨.l 52, .r (.ld true 2), [.v 11], none⟩,
      ⟨.l 53, .r (.lkp ⟨true, [1, 1]⟩ [.m (.b false)] false false), [.l 51, .l 52], none⟩,
      ⟨.v 50, .p .mv, [.l 53], none⟩])
    (.ite (.v 50)
      (.seq
      (.reg [⟨.l 54, .p .mv, [.v 7], none⟩,
        ⟨.no, .l (.st 1), [.v 2, .k (.m (.nl 4))], none⟩,
        ⟨.no, .l (.st 1), [.v 3, .l 54], none⟩,
        ⟨.no, .l (.st 1), [.v 4, .k (.m (.i .i64 8))], none⟩])
      .ret)
      (.seq
      (.reg [⟨.l 56, .r (.ld false 1), [.v 6], none⟩,
        ⟨.l 57, .p (.len false), [.l 56], none⟩,
        ⟨.l 58, .p (.bin .geq), [.l 57, .k (.m (.i .i64 5000))], none⟩,
        ⟨.v 55, .p .mv, [.l 58], none⟩])
      (.ite (.v 55)
        (.seq
        (.reg [⟨.l 59, .p .mv, [.v 7], none⟩,
          ⟨.no, .l (.st 1), [.v 2, .k (.m (.nl 4))], none⟩,
          ⟨.no, .l (.st 1), [.v 3, .l 59], none⟩,
          ⟨.no, .l (.st 1), [.v 4, .k (.m (.i .i64 6))], none⟩])
        .ret)
        .skip)))))))
  (.seq
  (.reg [⟨.l 60, .r (.ld false 1), [.v 5], none⟩,
    ⟨.l 61, .r (.ld true 2), [.v 11], none⟩,
    ⟨.no, .l (.mup ⟨true, [1, 1]⟩), [.l 60, .l 61, .k (.m (.b true))], none⟩])
  (.reg [⟨.l 62, .r (.ld false 1), [.v 6], none⟩,
    ⟨.l 63, .r (.ld true 3), [.v 9], none⟩,
    ⟨.l 64, .p (.bsl 3 [.m (.i .i64 0), .m (.i .i64 0), .m (.i .i64 0)] 1 [0]), [.l 63], none⟩,
    ⟨.l 65, .l (.app 40 3 24), [.l 62, .l 64], none⟩,
    ⟨.no, .l (.st 1), [.v 6, .l 65], none⟩]))))))))
def c10 : F := ⟨1, [.c 2 1 false, .c 3 1 false, .c 4 1 false],
  (.seq
  (.reg [⟨.v 2, .l (.als 24 1 1 [.m (.nl 4)]), [], none⟩,
    ⟨.v 3, .l (.als 3 1 1 [.m (.i .i64 0)]), [], none⟩,
    ⟨.v 4, .l (.als 25 1 1 [.m (.i .i64 0)]), [], none⟩])
  (.seq
  (.seq
  (.reg [⟨.l 14, .p .mv, [.v 0], none⟩,
    ⟨.l 15, .p (.len true), [.l 14], none⟩,
    ⟨.v 16, .p (.bin .gtr), [.l 15, .k (.m (.i .i64 65536))], none⟩])
  (.ite (.v 16)
    (.seq
    (.reg [⟨.no, .l (.st 1), [.v 2, .k (.m (.nl 4))], none⟩,
      ⟨.no, .l (.st 1), [.v 3, .k (.m (.i .i64 0))], none⟩,
      ⟨.no, .l (.st 1), [.v 4, .k (.m (.i .i64 6))], none⟩])
    .ret)
    .skip))
  (.seq
  (.seq
  (.reg [⟨.l 17, .p .mv, [.v 0], none⟩,
    ⟨.v 18, .p (.bin .eql), [.l 17, .k (.m (.s []))], none⟩])
  (.ite (.v 18)
    (.seq
    (.reg [⟨.no, .l (.st 1), [.v 2, .k (.m (.nl 4))], none⟩,
      ⟨.no, .l (.st 1), [.v 3, .k (.m (.i .i64 1))], none⟩,
      ⟨.no, .l (.st 1), [.v 4, .k (.m (.i .i64 15))], none⟩])
    .ret)
    .skip))
  (.seq
  (.reg [⟨.l 19, .l .mkm, [], none⟩,
    ⟨.v 5, .l (.als 42 1 1 [.m (.nl 1)]), [], none⟩,
    ⟨.no, .l (.st 1), [.v 5, .l 19], none⟩])
  (.seq
  (.reg [⟨.v 6, .l (.als 23 1 1 [.m (.nl 4)]), [], none⟩])
  (.seq
  (.seq
  (.reg [⟨.l 20, .p .mv, [.v 0], none⟩,
    ⟨.v 21, .l (.cal 19), [.l 20], none⟩])
  (.blk 0
  (.rng (.v 21) [0, 16, 18, 21] [22, 23] c10_A0 c10_R0)))
  (.seq
  (.reg [⟨.l 67, .r (.ld false 1), [.v 6], none⟩,
    ⟨.l 68, .l (.cal 21), [.l 67], none⟩,
    ⟨.l 66, .p .mv, [.l 68], none⟩,
    ⟨.l 69, .p (.ext 0), [.l 66], none⟩,
    ⟨.l 70, .p (.ext 1), [.l 66], none⟩,
    ⟨.v 12, .p .mv, [.l 69], none⟩,
    ⟨.v 13, .p .mv, [.l 70], none⟩])
  (.seq
  (.reg [⟨.l 71, .p .mv, [.v 12], none⟩,
    ⟨.l 72, .p .mv, [.v 13], none⟩,
    ⟨.no, .l (.st 1), [.v 2, .l 71], none⟩,
    ⟨.no, .l (.st 1), [.v 3, .k (.m (.i .i64 0))], none⟩,
    ⟨.no, .l (.st 1), [.v 4, .l 72], none⟩])
  .ret))))))))⟩

/- cellular/cellularref05.Same -/
def c12 : F := ⟨2, [.t 4],
  (.seq
  (.reg [⟨.v 4, .p .mv, [.k (.m (.b false))], none⟩])
  (.seq
  (.reg [⟨.l 5, .p .mv, [.v 0], none⟩,
    ⟨.l 6, .p .mv, [.v 1], none⟩,
    ⟨.l 7, .l (.cal 26), [.l 5, .l 6], none⟩,
    ⟨.l 8, .p (.bin .eql), [.l 7, .k (.m (.i .i64 0))], none⟩,
    ⟨.v 4, .p .mv, [.l 8], none⟩])
  .ret))⟩

/- cellular/cellularref32.Decimal -/
def c13 : F := ⟨1, [.t 2],
  (.seq
  (.reg [⟨.v 2, .p .mv, [.k (.m (.s []))], none⟩])
  (.seq
  (.seq
  (.reg [⟨.l 3, .p .mv, [.v 0], none⟩,
    ⟨.v 4, .p (.bin .lss), [.l 3, .k (.m (.i .i64 0))], none⟩])
  (.ite (.v 4)
    (.seq
    (.reg [⟨.l 5, .p .mv, [.v 0], none⟩,
      ⟨.l 6, .p (.un .neg), [.l 5], none⟩,
      ⟨.l 7, .l (.cal 13), [.l 6], none⟩,
      ⟨.l 8, .p (.bin .add), [.k (.m (.s [45])), .l 7], none⟩,
      ⟨.v 2, .p .mv, [.l 8], none⟩])
    .ret)
    .skip))
  (.seq
  (.seq
  (.reg [⟨.l 9, .p .mv, [.v 0], none⟩,
    ⟨.v 10, .p (.bin .lss), [.l 9, .k (.m (.i .i64 10))], none⟩])
  (.ite (.v 10)
    (.seq
    (.reg [⟨.l 11, .p .mv, [.v 0], none⟩,
      ⟨.l 12, .p .mv, [.v 0], none⟩,
      ⟨.l 13, .p (.bin .add), [.l 12, .k (.m (.i .i64 1))], none⟩,
      ⟨.l 14, .p (.slc 0 true true false), [.k (.m (.s [48, 49, 50, 51, 52, 53, 54, 55, 56, 57])), .l 11, .l 13], none⟩,
      ⟨.v 2, .p .mv, [.l 14], none⟩])
    .ret)
    .skip))
  (.seq
  (.reg [⟨.l 15, .p .mv, [.v 0], none⟩,
    ⟨.l 16, .p (.bin .quo), [.l 15, .k (.m (.i .i64 10))], none⟩,
    ⟨.l 17, .l (.cal 13), [.l 16], none⟩,
    ⟨.l 18, .p .mv, [.v 0], none⟩,
    ⟨.l 19, .p (.bin .rem), [.l 18, .k (.m (.i .i64 10))], none⟩,
    ⟨.l 20, .l (.cal 13), [.l 19], none⟩,
    ⟨.l 21, .p (.bin .add), [.l 17, .l 20], none⟩,
    ⟨.v 2, .p .mv, [.l 21], none⟩])
  .ret))))⟩

/- cellular/coords.Text -/
def c14_B0 : C :=
  (.seq
  (.reg [⟨.v 14, .p (.bin .lss), [.v 13, .v 12], none⟩])
  (.seq
  (.ite (.v 14)
    .skip
    (.ex 0))
  (.seq
  (.blk 1
  (.seq
  (.reg [⟨.l 15, .p (.ixa 3), [.v 11, .v 13], none⟩,
    ⟨.l 16, .r (.ld true 3), [.l 15], none⟩,
    ⟨.v 6, .l (.alp 6 [.m (.i .i64 0), .m (.i .i64 0), .m (.i .i64 0)]), [], none⟩,
    ⟨.no, .l (.st 3), [.v 6, .l 16], none⟩])
  (.seq
  (.reg [⟨.l 17, .p (.fad 0), [.v 6], none⟩,
    ⟨.l 18, .r (.ld false 1), [.l 17], none⟩,
    ⟨.l 19, .l (.cal 29), [.l 18], none⟩,
    ⟨.l 20, .p (.bin .add), [.l 19, .k (.m (.s [32]))], none⟩,
    ⟨.l 21, .p (.fad 1), [.v 6], none⟩,
    ⟨.l 22, .r (.ld false 1), [.l 21], none⟩,
    ⟨.l 23, .l (.cal 29), [.l 22], none⟩,
    ⟨.l 24, .p (.bin .add), [.l 20, .l 23], none⟩,
    ⟨.l 25, .l (.cal 28), [.v 4, .l 24], none⟩])
  (.seq
  (.seq
  (.reg [⟨.l 26, .p (.fad 2), [.v 6], none⟩,
    ⟨.l 27, .r (.ld false 1), [.l 26], none⟩,
    ⟨.v 28, .p (.bin .neq), [.l 27, .k (.m (.i .i64 1))], none⟩])
  (.ite (.v 28)
    (.reg [⟨.l 29, .p (.fad 2), [.v 6], none⟩,
      ⟨.l 30, .r (.ld false 1), [.l 29], none⟩,
      ⟨.l 31, .l (.cal 29), [.l 30], none⟩,
      ⟨.l 32, .p (.bin .add), [.k (.m (.s [32])), .l 31], none⟩,
      ⟨.l 33, .l (.cal 28), [.v 4, .l 32], none⟩])
    .skip))
  (.reg [⟨.l 34, .l (.cal 30), [.v 4, .k (.m (.i .u8 10))], none⟩])))))
  (.reg [⟨.l 35, .p (.bin .add), [.v 13, .k (.m (.i .i64 1))], none⟩,
    ⟨.v 13, .p .mv, [.l 35], none⟩]))))
def c14_L0 : C := .loop [0, 2, 3, 6, 9, 14, 28] c14_B0
def c14 : F := ⟨1, [.t 2, .t 3],
  (.seq
  (.reg [⟨.v 2, .p .mv, [.k (.m (.s []))], none⟩,
    ⟨.v 3, .p .mv, [.k (.m (.i .i64 0))], none⟩])
  (.seq
  (.seq
  (.reg [⟨.l 7, .p .mv, [.v 0], none⟩,
    ⟨.l 8, .l (.cal 27), [.l 7], none⟩,
    ⟨.v 9, .p (.un .not), [.l 8], none⟩])
  (.ite (.v 9)
    (.seq
    (.reg [⟨.v 2, .p .mv, [.k (.m (.s []))], none⟩,
      ⟨.v 3, .p .mv, [.k (.m (.i .i64 2))], none⟩])
    .ret)
    .skip))
  (.seq
  (.reg [⟨.v 4, .l (.als 61 2 1 [.m (.nl 0), .m (.nl 4)]), [], none⟩])
  (.seq
  (.reg [⟨.l 10, .l (.cal 28), [.v 4, .k (.m (.s [35, 99, 101, 108, 108, 115, 10]))], none⟩])
  (.seq
  (.seq
  (.reg [⟨.v 11, .p .mv, [.v 0], none⟩,
    ⟨.v 12, .p (.len false), [.v 11], none⟩,
    ⟨.v 13, .p .mv, [.k (.m (.i .i64 0))], none⟩])
  (.blk 0
  c14_L0))
  (.seq
  (.seq
  (.reg [⟨.l 36, .l (.cal 31), [.v 4], none⟩,
    ⟨.v 37, .p (.bin .gtr), [.l 36, .k (.m (.i .i64 65536))], none⟩])
  (.ite (.v 37)
    (.seq
    (.reg [⟨.v 2, .p .mv, [.k (.m (.s []))], none⟩,
      ⟨.v 3, .p .mv, [.k (.m (.i .i64 6))], none⟩])
    .ret)
    .skip))
  (.seq
  (.reg [⟨.l 38, .l (.cal 32), [.v 4], none⟩,
    ⟨.v 2, .p .mv, [.l 38], none⟩,
    ⟨.v 3, .p .mv, [.k (.m (.i .i64 0))], none⟩])
  .ret)))))))⟩

/- cellular/coords.Kind -/
def c16 : F := ⟨1, [.t 2],
  (.seq
  (.reg [⟨.v 2, .p .mv, [.k (.m (.i .i64 0))], none⟩])
  (.seq
  (.reg [⟨.l 7, .p .mv, [.v 0], none⟩,
    ⟨.l 8, .l (.cal 33), [.l 7, .k (.m (.s [10]))], none⟩,
    ⟨.l 6, .p .mv, [.l 8], none⟩,
    ⟨.l 9, .p (.ext 0), [.l 6], none⟩,
    ⟨.l 10, .p (.ext 1), [.l 6], none⟩,
    ⟨.l 11, .p (.ext 2), [.l 6], none⟩,
    ⟨.v 3, .p .mv, [.l 9], none⟩,
    ⟨.l 4, .p .mv, [.l 10], none⟩,
    ⟨.l 5, .p .mv, [.l 11], none⟩])
  (.seq
  (.blk 0
  (.seq
  (.reg [⟨.l 13, .p .mv, [.v 3], none⟩,
    ⟨.l 14, .p (.bin .eql), [.l 13, .k (.m (.s [35, 99, 101, 108, 108, 115]))], none⟩,
    ⟨.v 12, .p .mv, [.l 14], none⟩])
  (.ite (.v 12)
    (.seq
    (.reg [⟨.v 2, .p .mv, [.k (.m (.i .i64 3))], none⟩])
    .ret)
    (.seq
    (.reg [⟨.l 16, .p .mv, [.v 0], none⟩,
      ⟨.l 17, .l (.cal 34), [.l 16], none⟩,
      ⟨.v 15, .p .mv, [.l 17], none⟩])
    (.ite (.v 15)
      (.seq
      (.reg [⟨.v 2, .p .mv, [.k (.m (.i .i64 2))], none⟩])
      .ret)
      (.seq
      (.reg [⟨.l 19, .p .mv, [.v 0], none⟩,
        ⟨.l 20, .l (.cal 35), [.l 19, .k (.m (.s [33]))], none⟩,
        ⟨.v 18, .p .mv, [.l 20], none⟩])
      (.ite (.v 18)
        (.seq
        (.reg [⟨.v 2, .p .mv, [.k (.m (.i .i64 1))], none⟩])
        .ret)
        .skip)))))))
  (.seq
  (.reg [⟨.v 2, .p .mv, [.k (.m (.i .i64 0))], none⟩])
  .ret))))⟩

/- cellular/coords.lines -/
def c19 : F := ⟨1, [.t 2],
  (.seq
  (.reg [⟨.v 1, .l (.bxs 9 1 1), [.v 0], none⟩,
    ⟨.v 2, .p .mv, [.k (.m (.nl 2))], none⟩])
  (.seq
  (.reg [⟨.l 3, .p (.mkf 39), [.v 1], none⟩,
    ⟨.v 2, .p .mv, [.l 3], none⟩])
  .ret))⟩

/- cellular/coords.cell -/
def c20_B0 : C :=
  (.seq
  (.reg [⟨.v 26, .p (.bin .lss), [.v 25, .v 24], none⟩])
  (.seq
  (.ite (.v 26)
    .skip
    (.ex 0))
  (.seq
  (.blk 1
  (.seq
  (.reg [⟨.l 27, .p .mv, [.v 25], none⟩,
    ⟨.l 28, .p (.ixa 1), [.v 23, .v 25], none⟩,
    ⟨.l 29, .r (.ld false 1), [.l 28], none⟩,
    ⟨.v 6, .p .mv, [.l 27], none⟩,
    ⟨.v 7, .p .mv, [.l 29], none⟩])
  (.seq
  (.reg [⟨.l 31, .p .mv, [.v 7], none⟩,
    ⟨.l 32, .l (.cal 41), [.l 31], none⟩,
    ⟨.l 30, .p .mv, [.l 32], none⟩,
    ⟨.l 33, .p (.ext 0), [.l 30], none⟩,
    ⟨.l 34, .p (.ext 1), [.l 30], none⟩,
    ⟨.v 8, .p .mv, [.l 33], none⟩,
    ⟨.v 9, .p .mv, [.l 34], none⟩])
  (.seq
  (.seq
  (.reg [⟨.l 35, .p .mv, [.v 9], none⟩,
    ⟨.v 36, .p (.un .not), [.l 35], none⟩])
  (.ite (.v 36)
    (.seq
    (.reg [⟨.l 37, .p (.build [.m (.i .i64 0), .m (.i .i64 0), .m (.i .i64 0)] []), [], none⟩,
      ⟨.no, .l (.st 3), [.v 2, .l 37], none⟩,
      ⟨.v 3, .p .mv, [.k (.m (.i .i64 15))], none⟩])
    .ret)
    .skip))
  (.reg [⟨.l 38, .p .mv, [.v 6], none⟩,
    ⟨.l 39, .p .mv, [.v 8], none⟩,
    ⟨.l 40, .p (.ixaA 3 1), [.v 5, .l 38], none⟩,
    ⟨.no, .l (.st 1), [.l 40, .l 39], none⟩])))))
  (.reg [⟨.l 41, .p (.bin .add), [.v 25, .k (.m (.i .i64 1))], none⟩,
    ⟨.v 25, .p .mv, [.l 41], none⟩]))))
def c20_L0 : C := .loop [0, 3, 4, 6, 7, 8, 9, 20, 26, 36] c20_B0
def c20 : F := ⟨1, [.c 2 3 true, .t 3],
  (.seq
  (.reg [⟨.v 2, .l (.alp 2 [.m (.i .i64 0), .m (.i .i64 0), .m (.i .i64 0)]), [], none⟩,
    ⟨.v 3, .p .mv, [.k (.m (.i .i64 0))], none⟩])
  (.seq
  (.reg [⟨.l 11, .p .mv, [.v 0], none⟩,
    ⟨.l 12, .l (.cal 40), [.l 11, .k (.m (.s [32]))], none⟩,
    ⟨.v 4, .p .mv, [.l 12], none⟩])
  (.seq
  (.seq
  (.reg [⟨.l 13, .p .mv, [.v 4], none⟩,
    ⟨.l 14, .p (.len false), [.l 13], none⟩,
    ⟨.l 15, .p (.bin .neq), [.l 14, .k (.m (.i .i64 2))], none⟩,
    ⟨.l 16, .p .mv, [.l 15], none⟩,
    ⟨.l 17, .p .mv, [.v 4], some (.l 16, true)⟩,
    ⟨.l 18, .p (.len false), [.l 17], some (.l 16, true)⟩,
    ⟨.l 19, .p (.bin .neq), [.l 18, .k (.m (.i .i64 3))], some (.l 16, true)⟩,
    ⟨.v 20, .p .pick, [.l 16, .l 19, .k (.m (.b false))], none⟩])
  (.ite (.v 20)
    (.seq
    (.reg [⟨.l 21, .p (.build [.m (.i .i64 0), .m (.i .i64 0), .m (.i .i64 0)] []), [], none⟩,
      ⟨.no, .l (.st 3), [.v 2, .l 21], none⟩,
      ⟨.v 3, .p .mv, [.k (.m (.i .i64 15))], none⟩])
    .ret)
    .skip))
  (.seq
  (.reg [⟨.l 22, .p (.build [.m (.i .i64 0), .m (.i .i64 0), .m (.i .i64 0)] [(2, 1)]), [.k (.m (.i .i64 1))], none⟩,
    ⟨.v 5, .l (.alp 5 [.m (.i .i64 0), .m (.i .i64 0), .m (.i .i64 0)]), [], none⟩,
    ⟨.no, .l (.st 3), [.v 5, .l 22], none⟩])
  (.seq
  (.seq
  (.reg [⟨.v 23, .p .mv, [.v 4], none⟩,
    ⟨.v 24, .p (.len false), [.v 23], none⟩,
    ⟨.v 25, .p .mv, [.k (.m (.i .i64 0))], none⟩])
  (.blk 0
  c20_L0))
  (.seq
  (.reg [⟨.l 42, .p (.ixaA 3 1), [.v 5, .k (.m (.i .i64 0))], none⟩,
    ⟨.l 43, .r (.ld false 1), [.l 42], none⟩,
    ⟨.l 44, .p (.ixaA 3 1), [.v 5, .k (.m (.i .i64 1))], none⟩,
    ⟨.l 45, .r (.ld false 1), [.l 44], none⟩,
    ⟨.l 46, .p (.ixaA 3 1), [.v 5, .k (.m (.i .i64 2))], none⟩,
    ⟨.l 47, .r (.ld false 1), [.l 46], none⟩,
    ⟨.l 48, .p (.build [.m (.i .i64 0), .m (.i .i64 0), .m (.i .i64 0)] [(0, 1), (1, 1), (2, 1)]), [.l 43, .l 45, .l 47], none⟩,
    ⟨.v 10, .l (.alp 10 [.m (.i .i64 0), .m (.i .i64 0), .m (.i .i64 0)]), [], none⟩,
    ⟨.no, .l (.st 3), [.v 10, .l 48], none⟩])
  (.seq
  (.blk 2
  (.seq
  (.reg [⟨.l 50, .p (.fad 0), [.v 10], none⟩,
    ⟨.l 51, .r (.ld false 1), [.l 50], none⟩,
    ⟨.l 52, .p (.fad 0), [.v 10], none⟩,
    ⟨.l 53, .r (.ld false 1), [.l 52], none⟩,
    ⟨.l 54, .p (.un .neg), [.l 53], none⟩,
    ⟨.l 55, .p (.fad 1), [.v 10], none⟩,
    ⟨.l 56, .r (.ld false 1), [.l 55], none⟩,
    ⟨.l 57, .p (.fad 1), [.v 10], none⟩,
    ⟨.l 58, .r (.ld false 1), [.l 57], none⟩,
    ⟨.l 59, .p (.un .neg), [.l 58], none⟩,
    ⟨.l 60, .p (.mm true), [.l 51, .l 54, .l 56, .l 59], none⟩,
    ⟨.l 61, .p (.bin .gtr), [.l 60, .k (.m (.i .i64 1048576))], none⟩,
    ⟨.l 62, .p .mv, [.l 61], none⟩,
    ⟨.l 63, .p (.fad 0), [.v 10], some (.l 62, false)⟩,
    ⟨.l 64, .r (.ld false 1), [.l 63], some (.l 62, false)⟩,
    ⟨.l 65, .p (.fad 1), [.v 10], some (.l 62, false)⟩,
    ⟨.l 66, .r (.ld false 1), [.l 65], some (.l 62, false)⟩,
    ⟨.l 67, .p (.mm false), [.l 64, .l 66], some (.l 62, false)⟩,
    ⟨.l 68, .p (.bin .lss), [.l 67, .k (.m (.i .i64 (-1048576)))], some (.l 62, false)⟩,
    ⟨.l 69, .p .pick, [.l 62, .k (.m (.b true)), .l 68], none⟩,
    ⟨.v 49, .p .mv, [.l 69], none⟩])
  (.ite (.v 49)
    (.seq
    (.reg [⟨.l 70, .r (.ld true 3), [.v 10], none⟩,
      ⟨.no, .l (.st 3), [.v 2, .l 70], none⟩,
      ⟨.v 3, .p .mv, [.k (.m (.i .i64 5))], none⟩])
    .ret)
    (.seq
    (.reg [⟨.l 72, .p (.fad 2), [.v 10], none⟩,
      ⟨.l 73, .r (.ld false 1), [.l 72], none⟩,
      ⟨.l 74, .p (.bin .lss), [.l 73, .k (.m (.i .i64 1))], none⟩,
      ⟨.l 75, .p .mv, [.l 74], none⟩,
      ⟨.l 76, .p (.fad 2), [.v 10], some (.l 75, false)⟩,
      ⟨.l 77, .r (.ld false 1), [.l 76], some (.l 75, false)⟩,
      ⟨.l 78, .p (.bin .geq), [.l 77, .k (.m (.i .i64 8))], some (.l 75, false)⟩,
      ⟨.l 79, .p .pick, [.l 75, .k (.m (.b true)), .l 78], none⟩,
      ⟨.v 71, .p .mv, [.l 79], none⟩])
    (.ite (.v 71)
      (.seq
      (.reg [⟨.l 80, .r (.ld true 3), [.v 10], none⟩,
        ⟨.no, .l (.st 3), [.v 2, .l 80], none⟩,
        ⟨.v 3, .p .mv, [.k (.m (.i .i64 10))], none⟩])
      .ret)
      .skip)))))
  (.seq
  (.reg [⟨.l 81, .r (.ld true 3), [.v 10], none⟩,
    ⟨.no, .l (.st 3), [.v 2, .l 81], none⟩,
    ⟨.v 3, .p .mv, [.k (.m (.i .i64 0))], none⟩])
  .ret))))))))⟩

/- cellular/pattern.From -/
def c21_B0 : C :=
  (.seq
  (.reg [⟨.v 11, .p (.bin .lss), [.v 10, .v 9], none⟩])
  (.seq
  (.ite (.v 11)
    .skip
    (.ex 0))
  (.seq
  (.blk 1
  (.seq
  (.reg [⟨.l 12, .p (.ixa 3), [.v 8, .v 10], none⟩,
    ⟨.l 13, .r (.ld true 3), [.l 12], none⟩,
    ⟨.v 6, .l (.alp 6 [.m (.i .i64 0), .m (.i .i64 0), .m (.i .i64 0)]), [], none⟩,
    ⟨.no, .l (.st 3), [.v 6, .l 13], none⟩])
  (.blk 2
  (.seq
  (.reg [⟨.l 15, .r (.ld true 3), [.v 6], none⟩,
    ⟨.l 16, .l (.cal 43), [.l 15], none⟩,
    ⟨.l 17, .l (.cal 42), [.l 16], none⟩,
    ⟨.l 18, .p (.un .not), [.l 17], none⟩,
    ⟨.v 14, .p .mv, [.l 18], none⟩])
  (.ite (.v 14)
    (.seq
    (.reg [⟨.v 2, .p .mv, [.k (.m (.nl 4))], none⟩,
      ⟨.v 3, .p .mv, [.k (.m (.i .i64 5))], none⟩])
    .ret)
    (.seq
    (.reg [⟨.l 20, .p (.fad 2), [.v 6], none⟩,
      ⟨.l 21, .r (.ld false 1), [.l 20], none⟩,
      ⟨.l 22, .p (.bin .lss), [.l 21, .k (.m (.i .i64 0))], none⟩,
      ⟨.l 23, .p .mv, [.l 22], none⟩,
      ⟨.l 24, .p (.fad 2), [.v 6], some (.l 23, false)⟩,
      ⟨.l 25, .r (.ld false 1), [.l 24], some (.l 23, false)⟩,
      ⟨.l 26, .p (.bin .geq), [.l 25, .k (.m (.i .i64 8))], some (.l 23, false)⟩,
      ⟨.l 27, .p .pick, [.l 23, .k (.m (.b true)), .l 26], none⟩,
      ⟨.v 19, .p .mv, [.l 27], none⟩])
    (.ite (.v 19)
      (.seq
      (.reg [⟨.v 2, .p .mv, [.k (.m (.nl 4))], none⟩,
        ⟨.v 3, .p .mv, [.k (.m (.i .i64 10))], none⟩])
      .ret)
      (.seq
      (.reg [⟨.l 29, .p (.fad 2), [.v 6], none⟩,
        ⟨.l 30, .r (.ld false 1), [.l 29], none⟩,
        ⟨.l 31, .p (.bin .gtr), [.l 30, .k (.m (.i .i64 0))], none⟩,
        ⟨.v 28, .p .mv, [.l 31], none⟩])
      (.ite (.v 28)
        (.reg [⟨.l 32, .p .mv, [.v 4], none⟩,
          ⟨.l 33, .r (.ld true 3), [.v 6], none⟩,
          ⟨.l 34, .p (.bsl 3 [.m (.i .i64 0), .m (.i .i64 0), .m (.i .i64 0)] 1 [0]), [.l 33], none⟩,
          ⟨.l 35, .l (.app 40 3 24), [.l 32, .l 34], none⟩,
          ⟨.v 4, .p .mv, [.l 35], none⟩])
        .skip)))))))))
  (.reg [⟨.l 36, .p (.bin .add), [.v 10, .k (.m (.i .i64 1))], none⟩,
    ⟨.v 10, .p .mv, [.l 36], none⟩]))))
def c21_L0 : C := .loop [0, 2, 3, 6, 11, 14, 19, 28] c21_B0
def c21_B1 : C :=
  (.seq
  (.seq
  (.reg [⟨.l 39, .p .mv, [.v 7], none⟩,
    ⟨.l 40, .p .mv, [.v 4], none⟩,
    ⟨.l 41, .p (.len false), [.l 40], none⟩,
    ⟨.v 42, .p (.bin .lss), [.l 39, .l 41], none⟩])
  (.ite (.v 42)
    .skip
    (.ex 3)))
  (.seq
  (.blk 4
  (.seq
  (.reg [⟨.l 45, .p .mv, [.v 4], none⟩,
    ⟨.l 46, .p .mv, [.v 7], none⟩,
    ⟨.l 47, .p (.bin .sub), [.l 46, .k (.m (.i .i64 1))], none⟩,
    ⟨.l 48, .p (.ixa 3), [.l 45, .l 47], none⟩,
    ⟨.l 49, .r (.ld true 3), [.l 48], none⟩,
    ⟨.l 50, .l (.cal 43), [.l 49], none⟩,
    ⟨.l 51, .p .mv, [.v 4], none⟩,
    ⟨.l 52, .p .mv, [.v 7], none⟩,
    ⟨.l 53, .p (.ixa 3), [.l 51, .l 52], none⟩,
    ⟨.l 54, .r (.ld true 3), [.l 53], none⟩,
    ⟨.l 55, .l (.cal 43), [.l 54], none⟩,
    ⟨.v 56, .p (.eqs false [1, 1]), [.l 50, .l 55], none⟩])
  (.ite (.v 56)
    (.seq
    (.reg [⟨.v 2, .p .mv, [.k (.m (.nl 4))], none⟩,
      ⟨.v 3, .p .mv, [.k (.m (.i .i64 8))], none⟩])
    .ret)
    .skip)))
  (.reg [⟨.l 43, .p .mv, [.v 7], none⟩,
    ⟨.l 44, .p (.bin .add), [.l 43, .k (.m (.i .i64 1))], none⟩,
    ⟨.v 7, .p .mv, [.l 44], none⟩])))
def c21_L1 : C := .loop [8, 9, 10, 11, 42, 56] c21_B1
def c21 : F := ⟨1, [.t 2, .t 3],
  (.seq
  (.reg [⟨.v 2, .p .mv, [.k (.m (.nl 4))], none⟩,
    ⟨.v 3, .p .mv, [.k (.m (.i .i64 0))], none⟩])
  (.seq
  (.reg [⟨.v 4, .p .mv, [.k (.m (.nl 4))], none⟩])
  (.seq
  (.seq
  (.reg [⟨.v 8, .p .mv, [.v 0], none⟩,
    ⟨.v 9, .p (.len false), [.v 8], none⟩,
    ⟨.v 10, .p .mv, [.k (.m (.i .i64 0))], none⟩])
  (.blk 0
  c21_L0))
  (.seq
  (.reg [⟨.l 37, .p .mv, [.v 4], none⟩,
    ⟨.l 38, .l (.cal 44), [.l 37, .k (.m (.fn 45 []))], none⟩])
  (.seq
  (.seq
  (.reg [⟨.v 7, .p .mv, [.k (.m (.i .i64 1))], none⟩])
  (.blk 3
  c21_L1))
  (.seq
  (.seq
  (.reg [⟨.l 57, .p .mv, [.v 4], none⟩,
    ⟨.l 58, .p (.len false), [.l 57], none⟩,
    ⟨.v 59, .p (.bin .gtr), [.l 58, .k (.m (.i .i64 5000))], none⟩])
  (.ite (.v 59)
    (.seq
    (.reg [⟨.v 2, .p .mv, [.k (.m (.nl 4))], none⟩,
      ⟨.v 3, .p .mv, [.k (.m (.i .i64 6))], none⟩])
    .ret)
    .skip))
  (.seq
  (.reg [⟨.l 60, .p .mv, [.v 4], none⟩,
    ⟨.v 2, .p .mv, [.l 60], none⟩,
    ⟨.v 3, .p .mv, [.k (.m (.i .i64 0))], none⟩])
  .ret)))))))⟩

/- cellular/cellularref05.Compare -/
def c26_B0 : C :=
  (.seq
  (.seq
  (.reg [⟨.l 6, .p .mv, [.v 5], none⟩,
    ⟨.l 7, .p .mv, [.v 0], none⟩,
    ⟨.l 8, .p (.len false), [.l 7], none⟩,
    ⟨.l 9, .p (.bin .lss), [.l 6, .l 8], none⟩,
    ⟨.l 10, .p .mv, [.l 9], none⟩,
    ⟨.l 11, .p .mv, [.v 5], some (.l 10, true)⟩,
    ⟨.l 12, .p .mv, [.v 1], some (.l 10, true)⟩,
    ⟨.l 13, .p (.len false), [.l 12], some (.l 10, true)⟩,
    ⟨.l 14, .p (.bin .lss), [.l 11, .l 13], some (.l 10, true)⟩,
    ⟨.v 15, .p .pick, [.l 10, .l 14, .k (.m (.b false))], none⟩])
  (.ite (.v 15)
    .skip
    (.ex 0)))
  (.seq
  (.blk 1
  (.seq
  (.seq
  (.reg [⟨.l 18, .p .mv, [.v 0], none⟩,
    ⟨.l 19, .p .mv, [.v 5], none⟩,
    ⟨.l 20, .p (.ixa 3), [.l 18, .l 19], none⟩,
    ⟨.l 21, .p (.fad 1), [.l 20], none⟩,
    ⟨.l 22, .r (.ld false 1), [.l 21], none⟩,
    ⟨.l 23, .p .mv, [.v 1], none⟩,
    ⟨.l 24, .p .mv, [.v 5], none⟩,
    ⟨.l 25, .p (.ixa 3), [.l 23, .l 24], none⟩,
    ⟨.l 26, .p (.fad 1), [.l 25], none⟩,
    ⟨.l 27, .r (.ld false 1), [.l 26], none⟩,
    ⟨.v 28, .p (.bin .neq), [.l 22, .l 27], none⟩])
  (.ite (.v 28)
    (.seq
    (.reg [⟨.l 29, .p .mv, [.v 0], none⟩,
      ⟨.l 30, .p .mv, [.v 5], none⟩,
      ⟨.l 31, .p (.ixa 3), [.l 29, .l 30], none⟩,
      ⟨.l 32, .p (.fad 1), [.l 31], none⟩,
      ⟨.l 33, .r (.ld false 1), [.l 32], none⟩,
      ⟨.l 34, .p .mv, [.v 1], none⟩,
      ⟨.l 35, .p .mv, [.v 5], none⟩,
      ⟨.l 36, .p (.ixa 3), [.l 34, .l 35], none⟩,
      ⟨.l 37, .p (.fad 1), [.l 36], none⟩,
      ⟨.l 38, .r (.ld false 1), [.l 37], none⟩,
      ⟨.l 39, .l (.cal 48), [.l 33, .l 38], none⟩,
      ⟨.v 4, .p .mv, [.l 39], none⟩])
    .ret)
    .skip))
  (.seq
  (.seq
  (.reg [⟨.l 40, .p .mv, [.v 0], none⟩,
    ⟨.l 41, .p .mv, [.v 5], none⟩,
    ⟨.l 42, .p (.ixa 3), [.l 40, .l 41], none⟩,
    ⟨.l 43, .p (.fad 0), [.l 42], none⟩,
    ⟨.l 44, .r (.ld false 1), [.l 43], none⟩,
    ⟨.l 45, .p .mv, [.v 1], none⟩,
    ⟨.l 46, .p .mv, [.v 5], none⟩,
    ⟨.l 47, .p (.ixa 3), [.l 45, .l 46], none⟩,
    ⟨.l 48, .p (.fad 0), [.l 47], none⟩,
    ⟨.l 49, .r (.ld false 1), [.l 48], none⟩,
    ⟨.v 50, .p (.bin .neq), [.l 44, .l 49], none⟩])
  (.ite (.v 50)
    (.seq
    (.reg [⟨.l 51, .p .mv, [.v 0], none⟩,
      ⟨.l 52, .p .mv, [.v 5], none⟩,
      ⟨.l 53, .p (.ixa 3), [.l 51, .l 52], none⟩,
      ⟨.l 54, .p (.fad 0), [.l 53], none⟩,
      ⟨.l 55, .r (.ld false 1), [.l 54], none⟩,
      ⟨.l 56, .p .mv, [.v 1], none⟩,
      ⟨.l 57, .p .mv, [.v 5], none⟩,
      ⟨.l 58, .p (.ixa 3), [.l 56, .l 57], none⟩,
      ⟨.l 59, .p (.fad 0), [.l 58], none⟩,
      ⟨.l 60, .r (.ld false 1), [.l 59], none⟩,
      ⟨.l 61, .l (.cal 48), [.l 55, .l 60], none⟩,
      ⟨.v 4, .p .mv, [.l 61], none⟩])
    .ret)
    .skip))
  (.seq
  (.reg [⟨.l 62, .p .mv, [.v 0], none⟩,
    ⟨.l 63, .p .mv, [.v 5], none⟩,
    ⟨.l 64, .p (.ixa 3), [.l 62, .l 63], none⟩,
    ⟨.l 65, .p (.fad 2), [.l 64], none⟩,
    ⟨.l 66, .r (.ld false 1), [.l 65], none⟩,
    ⟨.l 67, .p .mv, [.v 1], none⟩,
    ⟨.l 68, .p .mv, [.v 5], none⟩,
    ⟨.l 69, .p (.ixa 3), [.l 67, .l 68], none⟩,
    ⟨.l 70, .p (.fad 2), [.l 69], none⟩,
    ⟨.l 71, .r (.ld false 1), [.l 70], none⟩,
    ⟨.v 72, .p (.bin .neq), [.l 66, .l 71], none⟩])
  (.ite (.v 72)
    (.seq
    (.reg [⟨.l 73, .p .mv, [.v 0], none⟩,
      ⟨.l 74, .p .mv, [.v 5], none⟩,
      ⟨.l 75, .p (.ixa 3), [.l 73, .l 74], none⟩,
      ⟨.l 76, .p (.fad 2), [.l 75], none⟩,
      ⟨.l 77, .r (.ld false 1), [.l 76], none⟩,
      ⟨.l 78, .p .mv, [.v 1], none⟩,
      ⟨.l 79, .p .mv, [.v 5], none⟩,
      ⟨.l 80, .p (.ixa 3), [.l 78, .l 79], none⟩,
      ⟨.l 81, .p (.fad 2), [.l 80], none⟩,
      ⟨.l 82, .r (.ld false 1), [.l 81], none⟩,
      ⟨.l 83, .l (.cal 48), [.l 77, .l 82], none⟩,
      ⟨.v 4, .p .mv, [.l 83], none⟩])
    .ret)
    .skip)))))
  (.reg [⟨.l 16, .p .mv, [.v 5], none⟩,
    ⟨.l 17, .p (.bin .add), [.l 16, .k (.m (.i .i64 1))], none⟩,
    ⟨.v 5, .p .mv, [.l 17], none⟩])))
def c26_L0 : C := .loop [4, 15, 28, 50, 72] c26_B0
def c26 : F := ⟨2, [.t 4],
  (.seq
  (.reg [⟨.v 4, .p .mv, [.k (.m (.i .i64 0))], none⟩])
  (.seq
  (.seq
  (.reg [⟨.v 5, .p .mv, [.k (.m (.i .i64 0))], none⟩])
  (.blk 0
  c26_L0))
  (.seq
  (.reg [⟨.l 84, .p .mv, [.v 0], none⟩,
    ⟨.l 85, .p (.len false), [.l 84], none⟩,
    ⟨.l 86, .p .mv, [.v 1], none⟩,
    ⟨.l 87, .p (.len false), [.l 86], none⟩,
    ⟨.l 88, .l (.cal 48), [.l 85, .l 87], none⟩,
    ⟨.v 4, .p .mv, [.l 88], none⟩])
  .ret)))⟩

/- cellular/pattern.Right -/
def c27_B0 : C :=
  (.seq
  (.reg [⟨.v 11, .p (.bin .lss), [.v 10, .v 9], none⟩])
  (.seq
  (.ite (.v 11)
    .skip
    (.ex 0))
  (.seq
  (.blk 1
  (.seq
  (.reg [⟨.l 12, .p .mv, [.v 10], none⟩,
    ⟨.l 13, .p (.ixa 3), [.v 8, .v 10], none⟩,
    ⟨.l 14, .r (.ld true 3), [.l 13], none⟩,
    ⟨.v 4, .l (.alp 4 [.m (.i .i64 0), .m (.i .i64 0), .m (.i .i64 0)]), [], none⟩,
    ⟨.v 3, .p .mv, [.l 12], none⟩,
    ⟨.no, .l (.st 3), [.v 4, .l 14], none⟩])
  (.seq
  (.reg [⟨.l 15, .r (.ld true 3), [.v 4], none⟩,
    ⟨.l 16, .l (.cal 43), [.l 15], none⟩,
    ⟨.l 17, .l (.cal 42), [.l 16], none⟩,
    ⟨.l 18, .p (.un .not), [.l 17], none⟩,
    ⟨.l 19, .p .mv, [.l 18], none⟩,
    ⟨.l 20, .p (.fad 2), [.v 4], some (.l 19, false)⟩,
    ⟨.l 21, .r (.ld false 1), [.l 20], some (.l 19, false)⟩,
    ⟨.l 22, .p (.bin .lss), [.l 21, .k (.m (.i .i64 1))], some (.l 19, false)⟩,
    ⟨.l 23, .p .pick, [.l 19, .k (.m (.b true)), .l 22], none⟩,
    ⟨.l 24, .p .mv, [.l 23], none⟩,
    ⟨.l 25, .p (.fad 2), [.v 4], some (.l 24, false)⟩,
    ⟨.l 26, .r (.ld false 1), [.l 25], some (.l 24, false)⟩,
    ⟨.l 27, .p (.bin .geq), [.l 26, .k (.m (.i .i64 8))], some (.l 24, false)⟩,
    ⟨.l 28, .p .pick, [.l 24, .k (.m (.b true)), .l 27], none⟩,
    ⟨.l 29, .p .mv, [.l 28], none⟩,
    ⟨.l 30, .p .mv, [.v 3], some (.l 29, false)⟩,
    ⟨.l 31, .p (.bin .gtr), [.l 30, .k (.m (.i .i64 0))], some (.l 29, false)⟩,
    ⟨.l 32, .p .mv, [.l 31], some (.l 29, false)⟩,
    ⟨.l 33, .p .mv, [.v 0], some (.l 32, true)⟩,
    ⟨.l 34, .p .mv, [.v 3], some (.l 32, true)⟩,
    ⟨.l 35, .p (.bin .sub), [.l 34, .k (.m (.i .i64 1))], some (.l 32, true)⟩,
    ⟨.l 36, .p (.ixa 3), [.l 33, .l 35], some (.l 32, true)⟩,
    ⟨.l 37, .r (.ld true 3), [.l 36], some (.l 32, true)⟩,
    ⟨.l 38, .r (.ld true 3), [.v 4], some (.l 32, true)⟩,
    ⟨.l 39, .l (.cal 45), [.l 37, .l 38], some (.l 32, true)⟩,
    ⟨.l 40, .p (.bin .geq), [.l 39, .k (.m (.i .i64 0))], some (.l 32, true)⟩,
    ⟨.l 41, .p .pick, [.l 32, .l 40, .k (.m (.b false))], some (.l 29, false)⟩,
    ⟨.v 42, .p .pick, [.l 29, .k (.m (.b true)), .l 41], none⟩])
  (.ite (.v 42)
    (.seq
    (.reg [⟨.v 2, .p .mv, [.k (.m (.b false))], none⟩])
    .ret)
    .skip))))
  (.reg [⟨.l 43, .p (.bin .add), [.v 10, .k (.m (.i .i64 1))], none⟩,
    ⟨.v 10, .p .mv, [.l 43], none⟩]))))
def c27_L0 : C := .loop [2, 3, 4, 7, 11, 42] c27_B0
def c27 : F := ⟨1, [.t 2],
  (.seq
  (.reg [⟨.v 2, .p .mv, [.k (.m (.b false))], none⟩])
  (.seq
  (.seq
  (.reg [⟨.l 5, .p .mv, [.v 0], none⟩,
    ⟨.l 6, .p (.len false), [.l 5], none⟩,
    ⟨.v 7, .p (.bin .gtr), [.l 6, .k (.m (.i .i64 5000))], none⟩])
  (.ite (.v 7)
    (.seq
    (.reg [⟨.v 2, .p .mv, [.k (.m (.b false))], none⟩])
    .ret)
    .skip))
  (.seq
  (.seq
  (.reg [⟨.v 8, .p .mv, [.v 0], none⟩,
    ⟨.v 9, .p (.len false), [.v 8], none⟩,
    ⟨.v 10, .p .mv, [.k (.m (.i .i64 0))], none⟩])
  (.blk 0
  c27_L0))
  (.seq
  (.reg [⟨.v 2, .p .mv, [.k (.m (.b true))], none⟩])
  .ret))))⟩

/- (*strings.Builder).WriteString -/
def c28 : F := ⟨2, [.t 4, .t 5],
  (.seq
  (.reg [⟨.v 4, .p .mv, [.k (.m (.i .i64 0))], none⟩,
    ⟨.v 5, .p .mv, [.k (.m (.nl 3))], none⟩])
  (.seq
  (.reg [⟨.l 6, .p .mv, [.v 0], none⟩,
    ⟨.l 7, .l (.cal 49), [.l 6], none⟩])
  (.seq
  (.reg [⟨.l 8, .p .mv, [.v 0], none⟩,
    ⟨.l 9, .p .mv, [.v 0], none⟩,
    ⟨.l 10, .p .nck, [.l 9], none⟩,
    ⟨.l 11, .p (.fad 1), [.l 10], none⟩,
    ⟨.l 12, .r (.ld false 1), [.l 11], none⟩,
    ⟨.l 13, .p .mv, [.v 1], none⟩,
    ⟨.l 14, .l (.app 5 1 1), [.l 12, .l 13], none⟩,
    ⟨.l 15, .p .nck, [.l 8], none⟩,
    ⟨.l 16, .p (.fad 1), [.l 15], none⟩,
    ⟨.no, .l (.st 1), [.l 16, .l 14], none⟩])
  (.seq
  (.reg [⟨.l 17, .p .mv, [.v 1], none⟩,
    ⟨.l 18, .p (.len true), [.l 17], none⟩,
    ⟨.v 4, .p .mv, [.l 18], none⟩,
    ⟨.v 5, .p .mv, [.k (.m (.nl 3))], none⟩])
  .ret))))⟩

/- strconv.Itoa -/
def c29 : F := ⟨1, [.t 2],
  (.seq
  (.reg [⟨.v 2, .p .mv, [.k (.m (.s []))], none⟩])
  (.seq
  (.reg [⟨.l 3, .p .mv, [.v 0], none⟩,
    ⟨.l 4, .l (.cal 50), [.l 3], none⟩,
    ⟨.v 2, .p .mv, [.l 4], none⟩])
  .ret))⟩

/- (*strings.Builder).WriteByte -/
def c30 : F := ⟨2, [.t 4],
  (.seq
  (.reg [⟨.v 4, .p .mv, [.k (.m (.nl 3))], none⟩])
  (.seq
  (.reg [⟨.l 5, .p .mv, [.v 0], none⟩,
    ⟨.l 6, .l (.cal 49), [.l 5], none⟩])
  (.seq
  (.reg [⟨.l 7, .p .mv, [.v 0], none⟩,
    ⟨.l 8, .p .mv, [.v 0], none⟩,
    ⟨.l 9, .p .nck, [.l 8], none⟩,
    ⟨.l 10, .p (.fad 1), [.l 9], none⟩,
    ⟨.l 11, .r (.ld false 1), [.l 10], none⟩,
    ⟨.l 12, .p .mv, [.v 1], none⟩,
    ⟨.l 13, .p (.bsl 1 [.m (.i .u8 0)] 1 [0]), [.l 12], none⟩,
    ⟨.l 14, .l (.app 5 1 1), [.l 11, .l 13], none⟩,
    ⟨.l 15, .p .nck, [.l 7], none⟩,
    ⟨.l 16, .p (.fad 1), [.l 15], none⟩,
    ⟨.no, .l (.st 1), [.l 16, .l 14], none⟩])
  (.seq
  (.reg [⟨.v 4, .p .mv, [.k (.m (.nl 3))], none⟩])
  .ret))))⟩

/- (*strings.Builder).Len -/
def c31 : F := ⟨1, [.t 2],
  (.seq
  (.reg [⟨.v 2, .p .mv, [.k (.m (.i .i64 0))], none⟩])
  (.seq
  (.reg [⟨.l 3, .p .mv, [.v 0], none⟩,
    ⟨.l 4, .p .nck, [.l 3], none⟩,
    ⟨.l 5, .p (.fad 1), [.l 4], none⟩,
    ⟨.l 6, .r (.ld false 1), [.l 5], none⟩,
    ⟨.l 7, .p (.len false), [.l 6], none⟩,
    ⟨.v 2, .p .mv, [.l 7], none⟩])
  .ret))⟩

/- (*strings.Builder).String -/
def c32 : F := ⟨1, [.t 2],
  (.seq
  (.reg [⟨.v 2, .p .mv, [.k (.m (.s []))], none⟩])
  (.seq
  (.reg [⟨.l 3, .p .mv, [.v 0], none⟩,
    ⟨.l 4, .p .nck, [.l 3], none⟩,
    ⟨.l 5, .p (.fad 1), [.l 4], none⟩,
    ⟨.l 6, .r (.ld false 1), [.l 5], none⟩,
    ⟨.l 7, .p .usd, [.l 6], none⟩,
    ⟨.l 8, .p .mv, [.v 0], none⟩,
    ⟨.l 9, .p .nck, [.l 8], none⟩,
    ⟨.l 10, .p (.fad 1), [.l 9], none⟩,
    ⟨.l 11, .r (.ld false 1), [.l 10], none⟩,
    ⟨.l 12, .p (.len false), [.l 11], none⟩,
    ⟨.l 13, .l (.ust 5), [.l 7, .l 12], none⟩,
    ⟨.v 2, .p .mv, [.l 13], none⟩])
  .ret))⟩

/- strings.Cut -/
def c33 : F := ⟨2, [.t 4, .t 5, .t 6],
  (.seq
  (.reg [⟨.v 4, .p .mv, [.k (.m (.s []))], none⟩,
    ⟨.v 5, .p .mv, [.k (.m (.s []))], none⟩,
    ⟨.v 6, .p .mv, [.k (.m (.b false))], none⟩])
  (.seq
  (.reg [⟨.l 7, .p .mv, [.v 0], none⟩,
    ⟨.l 8, .p .mv, [.v 1], none⟩,
    ⟨.l 9, .l (.cal 51), [.l 7, .l 8], none⟩,
    ⟨.l 10, .p (.ext 0), [.l 9], none⟩,
    ⟨.l 11, .p (.ext 1), [.l 9], none⟩,
    ⟨.l 12, .p (.ext 2), [.l 9], none⟩,
    ⟨.v 4, .p .mv, [.l 10], none⟩,
    ⟨.v 5, .p .mv, [.l 11], none⟩,
    ⟨.v 6, .p .mv, [.l 12], none⟩])
  .ret))⟩

/- cellular/coords.drawn -/
def c34_A0 : C :=
  (.reg [⟨.v 4, .p .mv, [.v 8], none⟩])
def c34_R0 : C :=
  (.blk 1
  (.seq
  (.reg [⟨.l 9, .p .mv, [.v 4], none⟩,
    ⟨.l 10, .l (.cal 52), [.l 9, .k (.m (.s [33]))], none⟩,
    ⟨.l 11, .p (.un .not), [.l 10], none⟩,
    ⟨.l 12, .p .mv, [.l 11], none⟩,
    ⟨.l 13, .p .mv, [.v 4], some (.l 12, true)⟩,
    ⟨.l 14, .l (.cal 53), [.l 13, .k (.m (.s [46, 79, 49, 50, 51, 52, 53, 54, 55]))], some (.l 12, true)⟩,
    ⟨.l 15, .p (.bin .neq), [.l 14, .k (.m (.s []))], some (.l 12, true)⟩,
    ⟨.v 16, .p .pick, [.l 12, .l 15, .k (.m (.b false))], none⟩])
  (.ite (.v 16)
    (.seq
    (.reg [⟨.no, .l (.st 1), [.v 2, .k (.m (.b false))], none⟩])
    .ret)
    .skip)))
def c34 : F := ⟨1, [.c 2 1 false],
  (.seq
  (.reg [⟨.v 2, .l (.als 4 1 1 [.m (.b false)]), [], none⟩])
  (.seq
  (.seq
  (.reg [⟨.l 5, .p .mv, [.v 0], none⟩,
    ⟨.v 6, .l (.cal 19), [.l 5], none⟩])
  (.blk 0
  (.rng (.v 6) [0, 6] [7, 8] c34_A0 c34_R0)))
  (.seq
  (.reg [⟨.l 17, .p .mv, [.v 0], none⟩,
    ⟨.l 18, .p (.bin .neq), [.l 17, .k (.m (.s []))], none⟩,
    ⟨.no, .l (.st 1), [.v 2, .l 18], none⟩])
  .ret)))⟩

/- strings.Contains -/
def c35 : F := ⟨2, [.t 4],
  (.seq
  (.reg [⟨.v 4, .p .mv, [.k (.m (.b false))], none⟩])
  (.seq
  (.reg [⟨.l 5, .p .mv, [.v 0], none⟩,
    ⟨.l 6, .p .mv, [.v 1], none⟩,
    ⟨.l 7, .l (.cal 54), [.l 5, .l 6], none⟩,
    ⟨.l 8, .p (.bin .geq), [.l 7, .k (.m (.i .i64 0))], none⟩,
    ⟨.v 4, .p .mv, [.l 8], none⟩])
  .ret))⟩

/- cellular/coords.lines$1 -/
def c39_B0 : C :=
  (.seq
  (.seq
  (.reg [⟨.l 7, .r (.ld false 1), [.v 1], none⟩,
    ⟨.v 8, .p (.bin .neq), [.l 7, .k (.m (.s []))], none⟩])
  (.ite (.v 8)
    .skip
    (.ex 0)))
  (.seq
  (.blk 1
  (.seq
  (.reg [⟨.l 12, .r (.ld false 1), [.v 1], none⟩,
    ⟨.l 13, .l (.cal 33), [.l 12, .k (.m (.s [10]))], none⟩,
    ⟨.l 11, .p .mv, [.l 13], none⟩,
    ⟨.l 14, .p (.ext 0), [.l 11], none⟩,
    ⟨.l 15, .p (.ext 1), [.l 11], none⟩,
    ⟨.l 16, .p (.ext 2), [.l 11], none⟩,
    ⟨.v 4, .p .mv, [.l 14], none⟩,
    ⟨.v 5, .p .mv, [.l 15], none⟩,
    ⟨.l 6, .p .mv, [.l 16], none⟩])
  (.seq
  (.seq
  (.reg [⟨.l 17, .p .mv, [.v 0], none⟩,
    ⟨.l 18, .p .mv, [.v 3], none⟩,
    ⟨.l 19, .p .mv, [.v 4], none⟩,
    ⟨.l 20, .l .cav, [.l 17, .l 18, .l 19], none⟩,
    ⟨.v 21, .p (.un .not), [.l 20], none⟩])
  (.ite (.v 21)
    .ret
    .skip))
  (.reg [⟨.l 22, .p .mv, [.v 5], none⟩,
    ⟨.no, .l (.st 1), [.v 1, .l 22], none⟩]))))
  (.reg [⟨.l 9, .p .mv, [.v 3], none⟩,
    ⟨.l 10, .p (.bin .add), [.l 9, .k (.m (.i .i64 1))], none⟩,
    ⟨.v 3, .p .mv, [.l 10], none⟩])))
def c39_L0 : C := .loop [4, 5, 8, 21] c39_B0
def c39 : F := ⟨2, [],
  (.seq
  (.reg [⟨.v 3, .p .mv, [.k (.m (.i .i64 1))], none⟩])
  (.blk 0
  c39_L0))⟩

/- strings.Split -/
def c40 : F := ⟨2, [.t 4],
  (.seq
  (.reg [⟨.v 4, .p .mv, [.k (.m (.nl 4))], none⟩])
  (.seq
  (.reg [⟨.l 5, .p .mv, [.v 0], none⟩,
    ⟨.l 6, .p .mv, [.v 1], none⟩,
    ⟨.l 7, .l (.cal 55), [.l 5, .l 6, .k (.m (.i .i64 0)), .k (.m (.i .i64 (-1)))], none⟩,
    ⟨.v 4, .p .mv, [.l 7], none⟩])
  .ret))⟩

/- cellular/coords.number -/
def c41 : F := ⟨1, [.t 2, .t 3],
  (.seq
  (.reg [⟨.v 2, .p .mv, [.k (.m (.i .i64 0))], none⟩,
    ⟨.v 3, .p .mv, [.k (.m (.b false))], none⟩])
  (.seq
  (.reg [⟨.l 7, .p .mv, [.v 0], none⟩,
    ⟨.l 8, .l (.cal 56), [.l 7, .k (.m (.s [45]))], none⟩,
    ⟨.v 4, .p .mv, [.l 8], none⟩])
  (.seq
  (.seq
  (.reg [⟨.l 9, .p .mv, [.v 4], none⟩,
    ⟨.l 10, .p (.bin .eql), [.l 9, .k (.m (.s []))], none⟩,
    ⟨.l 11, .p .mv, [.l 10], none⟩,
    ⟨.l 12, .p .mv, [.v 4], some (.l 11, false)⟩,
    ⟨.l 13, .p .ixs, [.l 12, .k (.m (.i .i64 0))], some (.l 11, false)⟩,
    ⟨.l 14, .p (.bin .eql), [.l 13, .k (.m (.i .u8 48))], some (.l 11, false)⟩,
    ⟨.l 15, .p .mv, [.l 14], some (.l 11, false)⟩,
    ⟨.l 16, .p .mv, [.v 4], some (.l 15, true)⟩,
    ⟨.l 17, .p (.len true), [.l 16], some (.l 15, true)⟩,
    ⟨.l 18, .p (.bin .gtr), [.l 17, .k (.m (.i .i64 1))], some (.l 15, true)⟩,
    ⟨.l 19, .p .mv, [.l 18], some (.l 15, true)⟩,
    ⟨.l 20, .p .mv, [.v 4], some (.l 19, false)⟩,
    ⟨.l 21, .p .mv, [.v 0], some (.l 19, false)⟩,
    ⟨.l 22, .p (.bin .neq), [.l 20, .l 21], some (.l 19, false)⟩,
    ⟨.l 23, .p .pick, [.l 19, .k (.m (.b true)), .l 22], some (.l 15, true)⟩,
    ⟨.l 24, .p .pick, [.l 15, .l 23, .k (.m (.b false))], some (.l 11, false)⟩,
    ⟨.l 25, .p .pick, [.l 11, .k (.m (.b true)), .l 24], none⟩,
    ⟨.l 26, .p .mv, [.l 25], none⟩,
    ⟨.l 27, .p .mv, [.v 4], some (.l 26, false)⟩,
    ⟨.l 28, .l (.cal 53), [.l 27, .k (.m (.s [48, 49, 50, 51, 52, 53, 54, 55, 56, 57]))], some (.l 26, false)⟩,
    ⟨.l 29, .p (.bin .neq), [.l 28, .k (.m (.s []))], some (.l 26, false)⟩,
    ⟨.v 30, .p .pick, [.l 26, .k (.m (.b true)), .l 29], none⟩])
  (.ite (.v 30)
    (.seq
    (.reg [⟨.v 2, .p .mv, [.k (.m (.i .i64 0))], none⟩,
      ⟨.v 3, .p .mv, [.k (.m (.b false))], none⟩])
    .ret)
    .skip))
  (.seq
  (.reg [⟨.l 32, .p .mv, [.v 0], none⟩,
    ⟨.l 33, .l (.cal 57), [.l 32], none⟩,
    ⟨.l 31, .p .mv, [.l 33], none⟩,
    ⟨.l 34, .p (.ext 0), [.l 31], none⟩,
    ⟨.l 35, .p (.ext 1), [.l 31], none⟩,
    ⟨.v 5, .p .mv, [.l 34], none⟩,
    ⟨.v 6, .p .mv, [.l 35], none⟩])
  (.seq
  (.seq
  (.reg [⟨.l 36, .p .mv, [.v 6], none⟩,
    ⟨.v 37, .p (.eqn true 3), [.l 36], none⟩])
  (.ite (.v 37)
    (.reg [⟨.v 5, .p .mv, [.k (.m (.i .i64 9223372036854775807))], none⟩])
    .skip))
  (.seq
  (.reg [⟨.l 38, .p .mv, [.v 5], none⟩,
    ⟨.v 2, .p .mv, [.l 38], none⟩,
    ⟨.v 3, .p .mv, [.k (.m (.b true))], none⟩])
  .ret))))))⟩

/- cellular/pattern.placed -/
def c42 : F := ⟨1, [.t 2],
  (.seq
  (.reg [⟨.v 1, .l (.bxp 1 2), [.v 0], none⟩,
    ⟨.v 2, .p .mv, [.k (.m (.b false))], none⟩])
  (.seq
  (.reg [⟨.l 3, .p (.fad 0), [.v 1], none⟩,
    ⟨.l 4, .r (.ld false 1), [.l 3], none⟩,
    ⟨.l 5, .p (.fad 1), [.v 1], none⟩,
    ⟨.l 6, .r (.ld false 1), [.l 5], none⟩,
    ⟨.l 7, .p (.mm true), [.l 4, .l 6], none⟩,
    ⟨.l 8, .p (.bin .leq), [.l 7, .k (.m (.i .i64 1048576))], none⟩,
    ⟨.l 9, .p .mv, [.l 8], none⟩,
    ⟨.l 10, .p (.fad 0), [.v 1], some (.l 9, true)⟩,
    ⟨.l 11, .r (.ld false 1), [.l 10], some (.l 9, true)⟩,
    ⟨.l 12, .p (.fad 1), [.v 1], some (.l 9, true)⟩,
    ⟨.l 13, .r (.ld false 1), [.l 12], some (.l 9, true)⟩,
    ⟨.l 14, .p (.mm false), [.l 11, .l 13], some (.l 9, true)⟩,
    ⟨.l 15, .p (.bin .geq), [.l 14, .k (.m (.i .i64 (-1048576)))], some (.l 9, true)⟩,
    ⟨.l 16, .p .pick, [.l 9, .l 15, .k (.m (.b false))], none⟩,
    ⟨.v 2, .p .mv, [.l 16], none⟩])
  .ret))⟩

/- cellular/pattern.at -/
def c43 : F := ⟨1, [.c 2 2 true],
  (.seq
  (.reg [⟨.v 1, .l (.bxp 1 3), [.v 0], none⟩,
    ⟨.v 2, .l (.alp 2 [.m (.i .i64 0), .m (.i .i64 0)]), [], none⟩])
  (.seq
  (.reg [⟨.l 3, .p (.fad 0), [.v 1], none⟩,
    ⟨.l 4, .r (.ld false 1), [.l 3], none⟩,
    ⟨.l 5, .p (.fad 1), [.v 1], none⟩,
    ⟨.l 6, .r (.ld false 1), [.l 5], none⟩,
    ⟨.l 7, .p (.build [.m (.i .i64 0), .m (.i .i64 0)] [(0, 1), (1, 1)]), [.l 4, .l 6], none⟩,
    ⟨.no, .l (.st 2), [.v 2, .l 7], none⟩])
  .ret))⟩

/- slices.SortFunc[cellular/api.Pattern,cellular/api.Cell] -/
def c44 : F := ⟨2, [],
  (.seq
  (.reg [⟨.l 5, .p .mv, [.v 0], none⟩,
    ⟨.l 6, .p (.len false), [.l 5], none⟩,
    ⟨.v 4, .p .mv, [.l 6], none⟩])
  (.reg [⟨.l 7, .p .mv, [.v 0], none⟩,
    ⟨.l 8, .p .mv, [.v 4], none⟩,
    ⟨.l 9, .p .mv, [.v 4], none⟩,
    ⟨.l 10, .p (.cv .u64), [.l 9], none⟩,
    ⟨.l 11, .l (.cal 59), [.l 10], none⟩,
    ⟨.l 12, .p .mv, [.v 1], none⟩,
    ⟨.l 13, .l (.cal 58), [.l 7, .k (.m (.i .i64 0)), .l 8, .l 11, .l 12], none⟩]))⟩

/- cellular/pattern.order -/
def c45 : F := ⟨2, [.t 4],
  (.seq
  (.reg [⟨.v 2, .l (.bxp 2 3), [.v 0], none⟩,
    ⟨.v 3, .l (.bxp 3 3), [.v 1], none⟩,
    ⟨.v 4, .p .mv, [.k (.m (.i .i64 0))], none⟩])
  (.seq
  (.reg [⟨.l 5, .r (.ld true 3), [.v 2], none⟩,
    ⟨.l 6, .l (.cal 43), [.l 5], none⟩,
    ⟨.l 7, .r (.ld true 3), [.v 3], none⟩,
    ⟨.l 8, .l (.cal 43), [.l 7], none⟩,
    ⟨.l 9, .l (.cal 60), [.l 6, .l 8], none⟩,
    ⟨.v 4, .p .mv, [.l 9], none⟩])
  .ret))⟩

/- cellular/cellularref05.order -/
def c48 : F := ⟨2, [.t 4],
  (.seq
  (.reg [⟨.v 4, .p .mv, [.k (.m (.i .i64 0))], none⟩])
  (.seq
  (.seq
  (.reg [⟨.l 5, .p .mv, [.v 0], none⟩,
    ⟨.l 6, .p .mv, [.v 1], none⟩,
    ⟨.v 7, .p (.bin .lss), [.l 5, .l 6], none⟩])
  (.ite (.v 7)
    (.seq
    (.reg [⟨.v 4, .p .mv, [.k (.m (.i .i64 (-1)))], none⟩])
    .ret)
    .skip))
  (.seq
  (.seq
  (.reg [⟨.l 8, .p .mv, [.v 0], none⟩,
    ⟨.l 9, .p .mv, [.v 1], none⟩,
    ⟨.v 10, .p (.bin .gtr), [.l 8, .l 9], none⟩])
  (.ite (.v 10)
    (.seq
    (.reg [⟨.v 4, .p .mv, [.k (.m (.i .i64 1))], none⟩])
    .ret)
    .skip))
  (.seq
  (.reg [⟨.v 4, .p .mv, [.k (.m (.i .i64 0))], none⟩])
  .ret))))⟩

/- internal/strconv.Itoa -/
def c50 : F := ⟨1, [.t 2],
  (.seq
  (.reg [⟨.v 2, .p .mv, [.k (.m (.s []))], none⟩])
  (.seq
  (.reg [⟨.l 3, .p .mv, [.v 0], none⟩,
    ⟨.l 4, .l (.cal 62), [.l 3, .k (.m (.i .i64 10))], none⟩,
    ⟨.v 2, .p .mv, [.l 4], none⟩])
  .ret))⟩

/- internal/stringslite.Cut -/
def c51 : F := ⟨2, [.t 4, .t 5, .t 6],
  (.seq
  (.reg [⟨.v 4, .p .mv, [.k (.m (.s []))], none⟩,
    ⟨.v 5, .p .mv, [.k (.m (.s []))], none⟩,
    ⟨.v 6, .p .mv, [.k (.m (.b false))], none⟩])
  (.seq
  (.seq
  (.reg [⟨.l 8, .p .mv, [.v 0], none⟩,
    ⟨.l 9, .p .mv, [.v 1], none⟩,
    ⟨.l 10, .l (.cal 63), [.l 8, .l 9], none⟩,
    ⟨.v 7, .p .mv, [.l 10], none⟩])
  (.seq
  (.reg [⟨.l 11, .p .mv, [.v 7], none⟩,
    ⟨.v 12, .p (.bin .geq), [.l 11, .k (.m (.i .i64 0))], none⟩])
  (.ite (.v 12)
    (.seq
    (.reg [⟨.l 13, .p .mv, [.v 0], none⟩,
      ⟨.l 14, .p .mv, [.v 7], none⟩,
      ⟨.l 15, .p (.slc 0 false true false), [.l 13, .l 14], none⟩,
      ⟨.l 16, .p .mv, [.v 0], none⟩,
      ⟨.l 17, .p .mv, [.v 7], none⟩,
      ⟨.l 18, .p .mv, [.v 1], none⟩,
      ⟨.l 19, .p (.len true), [.l 18], none⟩,
      ⟨.l 20, .p (.bin .add), [.l 17, .l 19], none⟩,
      ⟨.l 21, .p (.slc 0 true false false), [.l 16, .l 20], none⟩,
      ⟨.v 4, .p .mv, [.l 15], none⟩,
      ⟨.v 5, .p .mv, [.l 21], none⟩,
      ⟨.v 6, .p .mv, [.k (.m (.b true))], none⟩])
    .ret)
    .skip)))
  (.seq
  (.reg [⟨.l 22, .p .mv, [.v 0], none⟩,
    ⟨.v 4, .p .mv, [.l 22], none⟩,
    ⟨.v 5, .p .mv, [.k (.m (.s []))], none⟩,
    ⟨.v 6, .p .mv, [.k (.m (.b false))], none⟩])
  .ret)))⟩

/- strings.HasPrefix -/
def c52 : F := ⟨2, [.t 4],
  (.seq
  (.reg [⟨.v 4, .p .mv, [.k (.m (.b false))], none⟩])
  (.seq
  (.reg [⟨.l 5, .p .mv, [.v 0], none⟩,
    ⟨.l 6, .p .mv, [.v 1], none⟩,
    ⟨.l 7, .l (.cal 64), [.l 5, .l 6], none⟩,
    ⟨.v 4, .p .mv, [.l 7], none⟩])
  .ret))⟩

/- strings.Trim -/
def c53 : F := ⟨2, [.t 4],
  (.seq
  (.reg [⟨.v 4, .p .mv, [.k (.m (.s []))], none⟩])
  (.seq
  (.seq
  (.reg [⟨.l 7, .p .mv, [.v 0], none⟩,
    ⟨.l 8, .p (.bin .eql), [.l 7, .k (.m (.s []))], none⟩,
    ⟨.l 9, .p .mv, [.l 8], none⟩,
    ⟨.l 10, .p .mv, [.v 1], some (.l 9, false)⟩,
    ⟨.l 11, .p (.bin .eql), [.l 10, .k (.m (.s []))], some (.l 9, false)⟩,
    ⟨.v 12, .p .pick, [.l 9, .k (.m (.b true)), .l 11], none⟩])
  (.ite (.v 12)
    (.seq
    (.reg [⟨.l 13, .p .mv, [.v 0], none⟩,
      ⟨.v 4, .p .mv, [.l 13], none⟩])
    .ret)
    .skip))
  (.seq
  (.seq
  (.reg [⟨.l 14, .p .mv, [.v 1], none⟩,
    ⟨.l 15, .p (.len true), [.l 14], none⟩,
    ⟨.l 16, .p (.bin .eql), [.l 15, .k (.m (.i .i64 1))], none⟩,
    ⟨.l 17, .p .mv, [.l 16], none⟩,
    ⟨.l 18, .p .mv, [.v 1], some (.l 17, true)⟩,
    ⟨.l 19, .p .ixs, [.l 18, .k (.m (.i .i64 0))], some (.l 17, true)⟩,
    ⟨.l 20, .p (.bin .lss), [.l 19, .k (.m (.i .u8 128))], some (.l 17, true)⟩,
    ⟨.v 21, .p .pick, [.l 17, .l 20, .k (.m (.b false))], none⟩])
  (.ite (.v 21)
    (.seq
    (.reg [⟨.l 22, .p .mv, [.v 0], none⟩,
      ⟨.l 23, .p .mv, [.v 1], none⟩,
      ⟨.l 24, .p .ixs, [.l 23, .k (.m (.i .i64 0))], none⟩,
      ⟨.l 25, .l (.cal 66), [.l 22, .l 24], none⟩,
      ⟨.l 26, .p .mv, [.v 1], none⟩,
      ⟨.l 27, .p .ixs, [.l 26, .k (.m (.i .i64 0))], none⟩,
      ⟨.l 28, .l (.cal 65), [.l 25, .l 27], none⟩,
      ⟨.v 4, .p .mv, [.l 28], none⟩])
    .ret)
    .skip))
  (.seq
  (.seq
  (.reg [⟨.l 30, .p .mv, [.v 1], none⟩,
    ⟨.l 31, .l (.cal 67), [.l 30], none⟩,
    ⟨.l 29, .p .mv, [.l 31], none⟩,
    ⟨.l 32, .p (.ext 0), [.l 29], none⟩,
    ⟨.l 33, .p (.ext 1), [.l 29], none⟩,
    ⟨.v 5, .l (.als 97 1 256 [.m (.b false), .m (.b false), .m (.b false), .m (.b false), .m (.b false), .m (.b false), .m (.b false), .m (.b false), .m (.b false), .m (.b false), .m (.b false), .m (.b false), .m (.b false), .m (.b false), .m (.b false), .m (.b false), .m (.b false), .m (.b false), .m (.b false), .m (.b false), .m (.b false), .m (.b false), .m (.b false), .m (.b false), .m (.b false), .m (.b false), .m (.b false), .m (.b false), .m (.b false), .m (.b false), .m (.b false), .m (.b false), .m (.b false), .m (.b false), .m (.b false), .m (.b false), .m (.b false), .m (.b false), .m (.b false), .m (.b false), .m (.b false), .m (.b false), .m (.b false), .m (.b false), .m (.b false), .m (.b false), .m (.b false), .m (.b false), .m (.b false), .m (.b false), .m (.b false), .m (.b false), .m (.b false), .m (.b false), .m (.b false), .m (.b false), .m (.b false), .m (.b false), .m (.b false), .m (.b false), .m (.b false), .m (.b false), .m (.b false), .m (.b false), .m (.b false), .m (.b false), .m (.b false), .m (.b false), .m (.b false), .m (.b false), .m (.b false), .m (.b false), .m (.b false), .m (.b false), .m (.b false), .m (.b false), .m (.b false), .m (.b false), .m (.b false), .m (.b false), .m (.b false), .m (.b false), .m (.b false), .m (.b false), .m (.b false), .m (.b false), .m (.b false), .m (.b false), .m (.b false), .m (.b false), .m (.b false), .m (.b false), .m (.b false), .m (.b false), .m (.b false), .m (.b false), .m (.b false), .m (.b false), .m (.b false), .m (.b false), .m (.b false), .m (.b false), .m (.b false), .m (.b false), .m (.b false), .m (.b false), .m (.b false), .m (.b false), .m (.b false), .m (.b false), .m (.b false), .m (.b false), .m (.b false), .m (.b false), .m (.b false), .m (.b false), .m (.b false), .m (.b false), .m (.b false), .m (.b false), .m (.b false), .m (.b false), .m (.b false), .m (.b false), .m (.b false), .m (.b false), .m (.b false), .m (.b false), .m (.b false), .m (.b false), .m (.b false), .m (.b false), .m (.b false), .m (.b false), .m (.b false), .m (.b false), .m (.b false), .m (.b false), .m (.b false), .m (.b false), .m (.b false), .m (.b false), .m (.b false), .m (.b false), .m (.b false), .m (.b false), .m (.b false), .m (.b false), .m (.b false), .m (.b false), .m (.b false), .m (.b false), .m (.b false), .m (.b false), .m (.b false), .m (.b false), .m (.b false), .m (.b false), .m (.b false), .m (.b false), .m (.b false), .m (.b false), .m (.b false), .m (.b false), .m (.b false), .m (.b false), .m (.b false), .m (.b false), .m (.b false), .m (.b false), .m (.b false), .m (.b false), .m (.b false), .m (.b false), .m (.b false), .m (.b false), .m (.b false), .m (.b false), .m (.b false), .m (.b false), .m (.b false), .m (.b false), .m (.b false), .m (.b false), .m (.b false), .m (.b false), .m (.b false), .m (.b false), .m (.b false), .m (.b false), .m (.b false), .m (.b false), .m (.b false), .m (.b false), .m (.b false), .m (.b false), .m (.b false), .m (.b false), .m (.b false), .m (.b false), .m (.b false), .m (.b false), .m (.b false), .m (.b false), .m (.b false), .m (.b false), .m (.b false), .m (.b false), .m (.b false), .m (.b false), .m (.b false), .m (.b false), .m (.b false), .m (.b false), .m (.b false), .m (.b false), .m (.b false), .m (.b false), .m (.b false), .m (.b false), .m (.b false), .m (.b false), .m (.b false), .m (.b false), .m (.b false), .m (.b false), .m (.b false), .m (.b false), .m (.b false), .m (.b false), .m (.b false), .m (.b false), .m (.b false), .m (.b false), .m (.b false), .m (.b false), .m (.b false), .m (.b false), .m (.b false), .m (.b false), .m (.b false), .m (.b false), .m (.b false), .m (.b false), .m (.b false), .m (.b false), .m (.b false), .m (.b false), .m (.b false), .m (.b false), .m (.b false), .m (.b false), .m (.b false), .m (.b false), .m (.b false), .m (.b false)]), [], none⟩,
    ⟨.no, .l (.st 256), [.v 5, .l 32], none⟩,
    ⟨.v 6, .p .mv, [.l 33], none⟩])
  (.seq
  (.reg [⟨.v 34, .p .mv, [.v 6], none⟩])
  (.ite (.v 34)
    (.seq
    (.reg [⟨.l 35, .p .mv, [.v 0], none⟩,
      ⟨.l 36, .l (.cal 69), [.l 35, .v 5], none⟩,
      ⟨.l 37, .l (.cal 68), [.l 36, .v 5], none⟩,
      ⟨.v 4, .p .mv, [.l 37], none⟩])
    .ret)
    .skip)))
  (.seq
  (.reg [⟨.l 38, .p .mv, [.v 0], none⟩,
    ⟨.l 39, .p .mv, [.v 1], none⟩,
    ⟨.l 40, .l (.cal 71), [.l 38, .l 39], none⟩,
    ⟨.l 41, .p .mv, [.v 1], none⟩,
    ⟨.l 42, .l (.cal 70), [.l 40, .l 41], none⟩,
    ⟨.v 4, .p .mv, [.l 42], none⟩])
  .ret)))))⟩

/- strings.Index -/
def c54 : F := ⟨2, [.t 4],
  (.seq
  (.reg [⟨.v 4, .p .mv, [.k (.m (.i .i64 0))], none⟩])
  (.seq
  (.reg [⟨.l 5, .p .mv, [.v 0], none⟩,
    ⟨.l 6, .p .mv, [.v 1], none⟩,
    ⟨.l 7, .l (.cal 63), [.l 5, .l 6], none⟩,
    ⟨.v 4, .p .mv, [.l 7], none⟩])
  .ret))⟩

/- strings.genSplit -/
def c55_B0 : C :=
  (.seq
  (.seq
  (.reg [⟨.l 34, .p .mv, [.v 10], none⟩,
    ⟨.l 35, .p .mv, [.v 3], none⟩,
    ⟨.v 36, .p (.bin .lss), [.l 34, .l 35], none⟩])
  (.ite (.v 36)
    .skip
    (.ex 0)))
  (.blk 1
  (.seq
  (.reg [⟨.l 37, .p .mv, [.v 0], none⟩,
    ⟨.l 38, .p .mv, [.v 1], none⟩,
    ⟨.l 39, .l (.cal 54), [.l 37, .l 38], none⟩,
    ⟨.v 11, .p .mv, [.l 39], none⟩])
  (.seq
  (.seq
  (.reg [⟨.l 40, .p .mv, [.v 11], none⟩,
    ⟨.v 41, .p (.bin .lss), [.l 40, .k (.m (.i .i64 0))], none⟩])
  (.ite (.v 41)
    (.ex 0)
    .skip))
  (.seq
  (.reg [⟨.l 42, .p .mv, [.v 9], none⟩,
    ⟨.l 43, .p .mv, [.v 10], none⟩,
    ⟨.l 44, .p .mv, [.v 0], none⟩,
    ⟨.l 45, .p .mv, [.v 11], none⟩,
    ⟨.l 46, .p .mv, [.v 2], none⟩,
    ⟨.l 47, .p (.bin .add), [.l 45, .l 46], none⟩,
    ⟨.l 48, .p (.slc 0 false true false), [.l 44, .l 47], none⟩,
    ⟨.l 49, .p (.ixa 1), [.l 42, .l 43], none⟩,
    ⟨.no, .l (.st 1), [.l 49, .l 48], none⟩])
  (.seq
  (.reg [⟨.l 50, .p .mv, [.v 0], none⟩,
    ⟨.l 51, .p .mv, [.v 11], none⟩,
    ⟨.l 52, .p .mv, [.v 1], none⟩,
    ⟨.l 53, .p (.len true), [.l 52], none⟩,
    ⟨.l 54, .p (.bin .add), [.l 51, .l 53], none⟩,
    ⟨.l 55, .p (.slc 0 true false false), [.l 50, .l 54], none⟩,
    ⟨.v 0, .p .mv, [.l 55], none⟩])
  (.reg [⟨.l 56, .p .mv, [.v 10], none⟩,
    ⟨.l 57, .p (.bin .add), [.l 56, .k (.m (.i .i64 1))], none⟩,
    ⟨.v 10, .p .mv, [.l 57], none⟩])))))))
def c55_L0 : C := .loop [8, 11, 13, 15, 20, 36, 41] c55_B0
def c55 : F := ⟨4, [.t 8],
  (.seq
  (.reg [⟨.v 8, .p .mv, [.k (.m (.nl 4))], none⟩])
  (.seq
  (.seq
  (.reg [⟨.l 12, .p .mv, [.v 3], none⟩,
    ⟨.v 13, .p (.bin .eql), [.l 12, .k (.m (.i .i64 0))], none⟩])
  (.ite (.v 13)
    (.seq
    (.reg [⟨.v 8, .p .mv, [.k (.m (.nl 4))], none⟩])
    .ret)
    .skip))
  (.seq
  (.seq
  (.reg [⟨.l 14, .p .mv, [.v 1], none⟩,
    ⟨.v 15, .p (.bin .eql), [.l 14, .k (.m (.s []))], none⟩])
  (.ite (.v 15)
    (.seq
    (.reg [⟨.l 16, .p .mv, [.v 0], none⟩,
      ⟨.l 17, .p .mv, [.v 3], none⟩,
      ⟨.l 18, .l (.cal 72), [.l 16, .l 17], none⟩,
      ⟨.v 8, .p .mv, [.l 18], none⟩])
    .ret)
    .skip))
  (.seq
  (.seq
  (.reg [⟨.l 19, .p .mv, [.v 3], none⟩,
    ⟨.v 20, .p (.bin .lss), [.l 19, .k (.m (.i .i64 0))], none⟩])
  (.ite (.v 20)
    (.reg [⟨.l 21, .p .mv, [.v 0], none⟩,
      ⟨.l 22, .p .mv, [.v 1], none⟩,
      ⟨.l 23, .l (.cal 73), [.l 21, .l 22], none⟩,
      ⟨.l 24, .p (.bin .add), [.l 23, .k (.m (.i .i64 1))], none⟩,
      ⟨.v 3, .p .mv, [.l 24], none⟩])
    .skip))
  (.seq
  (.reg [⟨.l 25, .p .mv, [.v 3], none⟩,
    ⟨.l 26, .p .mv, [.v 0], none⟩,
    ⟨.l 27, .p (.len true), [.l 26], none⟩,
    ⟨.l 28, .p (.bin .add), [.l 27, .k (.m (.i .i64 1))], none⟩,
    ⟨.l 29, .p (.mm false), [.l 25, .l 28], none⟩,
    ⟨.v 3, .p .mv, [.l 29], none⟩])
  (.seq
  (.reg [⟨.l 30, .p .mv, [.v 3], none⟩,
    ⟨.l 31, .l (.mks 9 1 [.m (.s [])] 16), [.l 30, .l 30], none⟩,
    ⟨.v 9, .p .mv, [.l 31], none⟩])
  (.seq
  (.reg [⟨.l 32, .p .mv, [.v 3], none⟩,
    ⟨.l 33, .p (.bin .sub), [.l 32, .k (.m (.i .i64 1))], none⟩,
    ⟨.v 3, .p .mv, [.l 33], none⟩])
  (.seq
  (.reg [⟨.v 10, .p .mv, [.k (.m (.i .i64 0))], none⟩])
  (.seq
  (.blk 0
  c55_L0)
  (.seq
  (.reg [⟨.l 58, .p .mv, [.v 9], none⟩,
    ⟨.l 59, .p .mv, [.v 10], none⟩,
    ⟨.l 60, .p .mv, [.v 0], none⟩,
    ⟨.l 61, .p (.ixa 1), [.l 58, .l 59], none⟩,
    ⟨.no, .l (.st 1), [.l 61, .l 60], none⟩])
  (.seq
  (.reg [⟨.l 62, .p .mv, [.v 9], none⟩,
    ⟨.l 63, .p .mv, [.v 10], none⟩,
    ⟨.l 64, .p (.bin .add), [.l 63, .k (.m (.i .i64 1))], none⟩,
    ⟨.l 65, .p (.slc 1 false true false), [.l 62, .l 64], none⟩,
    ⟨.v 8, .p .mv, [.l 65], none⟩])
  .ret)))))))))))⟩

/- strings.TrimPrefix -/
def c56 : F := ⟨2, [.t 4],
  (.seq
  (.reg [⟨.v 4, .p .mv, [.k (.m (.s []))], none⟩])
  (.seq
  (.reg [⟨.l 5, .p .mv, [.v 0], none⟩,
    ⟨.l 6, .p .mv, [.v 1], none⟩,
    ⟨.l 7, .l (.cal 74), [.l 5, .l 6], none⟩,
    ⟨.v 4, .p .mv, [.l 7], none⟩])
  .ret))⟩

/- slices.pdqsortCmpFunc[cellular/api.Cell] -/
def c58_B0 : C :=
  (.blk 1
  (.seq
  (.reg [⟨.l 21, .p .mv, [.v 2], none⟩,
    ⟨.l 22, .p .mv, [.v 1], none⟩,
    ⟨.l 23, .p (.bin .sub), [.l 21, .l 22], none⟩,
    ⟨.v 12, .p .mv, [.l 23], none⟩])
  (.seq
  (.seq
  (.reg [⟨.l 24, .p .mv, [.v 12], none⟩,
    ⟨.v 25, .p (.bin .leq), [.l 24, .k (.m (.i .i64 12))], none⟩])
  (.ite (.v 25)
    (.seq
    (.reg [⟨.l 26, .p .mv, [.v 0], none⟩,
      ⟨.l 27, .p .mv, [.v 1], none⟩,
      ⟨.l 28, .p .mv, [.v 2], none⟩,
      ⟨.l 29, .p .mv, [.v 4], none⟩,
      ⟨.l 30, .l (.cal 77), [.l 26, .l 27, .l 28, .l 29], none⟩])
    .ret)
    .skip))
  (.seq
  (.seq
  (.reg [⟨.l 31, .p .mv, [.v 3], none⟩,
    ⟨.v 32, .p (.bin .eql), [.l 31, .k (.m (.i .i64 0))], none⟩])
  (.ite (.v 32)
    (.seq
    (.reg [⟨.l 33, .p .mv, [.v 0], none⟩,
      ⟨.l 34, .p .mv, [.v 1], none⟩,
      ⟨.l 35, .p .mv, [.v 2], none⟩,
      ⟨.l 36, .p .mv, [.v 4], none⟩,
      ⟨.l 37, .l (.cal 78), [.l 33, .l 34, .l 35, .l 36], none⟩])
    .ret)
    .skip))
  (.seq
  (.seq
  (.reg [⟨.l 38, .p .mv, [.v 10], none⟩,
    ⟨.v 39, .p (.un .not), [.l 38], none⟩])
  (.ite (.v 39)
    (.seq
    (.reg [⟨.l 40, .p .mv, [.v 0], none⟩,
      ⟨.l 41, .p .mv, [.v 1], none⟩,
      ⟨.l 42, .p .mv, [.v 2], none⟩,
      ⟨.l 43, .p .mv, [.v 4], none⟩,
      ⟨.l 44, .l (.cal 79), [.l 40, .l 41, .l 42, .l 43], none⟩])
    (.reg [⟨.l 45, .p .mv, [.v 3], none⟩,
      ⟨.l 46, .p (.bin .sub), [.l 45, .k (.m (.i .i64 1))], none⟩,
      ⟨.v 3, .p .mv, [.l 46], none⟩]))
    .skip))
  (.seq
  (.reg [⟨.l 48, .p .mv, [.v 0], none⟩,
    ⟨.l 49, .p .mv, [.v 1], none⟩,
    ⟨.l 50, .p .mv, [.v 2], none⟩,
    ⟨.l 51, .p .mv, [.v 4], none⟩,
    ⟨.l 52, .l (.cal 80), [.l 48, .l 49, .l 50, .l 51], none⟩,
    ⟨.l 47, .p .mv, [.l 52], none⟩,
    ⟨.l 53, .p (.ext 0), [.l 47], none⟩,
    ⟨.l 54, .p (.ext 1), [.l 47], none⟩,
    ⟨.v 13, .p .mv, [.l 53], none⟩,
    ⟨.v 14, .p .mv, [.l 54], none⟩])
  (.seq
  (.seq
  (.reg [⟨.l 55, .p .mv, [.v 14], none⟩,
    ⟨.v 56, .p (.bin .eql), [.l 55, .k (.m (.i .i64 2))], none⟩])
  (.ite (.v 56)
    (.seq
    (.reg [⟨.l 57, .p .mv, [.v 0], none⟩,
      ⟨.l 58, .p .mv, [.v 1], none⟩,
      ⟨.l 59, .p .mv, [.v 2], none⟩,
      ⟨.l 60, .p .mv, [.v 4], none⟩,
      ⟨.l 61, .l (.cal 81), [.l 57, .l 58, .l 59, .l 60], none⟩])
    (.seq
    (.reg [⟨.l 62, .p .mv, [.v 2], none⟩,
      ⟨.l 63, .p (.bin .sub), [.l 62, .k (.m (.i .i64 1))], none⟩,
      ⟨.l 64, .p .mv, [.v 13], none⟩,
      ⟨.l 65, .p .mv, [.v 1], none⟩,
      ⟨.l 66, .p (.bin .sub), [.l 64, .l 65], none⟩,
      ⟨.l 67, .p (.bin .sub), [.l 63, .l 66], none⟩,
      ⟨.v 13, .p .mv, [.l 67], none⟩])
    (.reg [⟨.v 14, .p .mv, [.k (.m (.i .i64 1))], none⟩])))
    .skip))
  (.seq
  (.seq
  (.reg [⟨.l 68, .p .mv, [.v 10], none⟩,
    ⟨.l 69, .p .mv, [.l 68], none⟩,
    ⟨.l 70, .p .mv, [.v 11], some (.l 69, true)⟩,
    ⟨.l 71, .p .pick, [.l 69, .l 70, .k (.m (.b false))], none⟩,
    ⟨.l 72, .p .mv, [.l 71], none⟩,
    ⟨.l 73, .p .mv, [.v 14], some (.l 72, true)⟩,
    ⟨.l 74, .p (.bin .eql), [.l 73, .k (.m (.i .i64 1))], some (.l 72, true)⟩,
    ⟨.v 75, .p .pick, [.l 72, .l 74, .k (.m (.b false))], none⟩])
  (.ite (.v 75)
    (.seq
    (.reg [⟨.l 76, .p .mv, [.v 0], none⟩,
      ⟨.l 77, .p .mv, [.v 1], none⟩,
      ⟨.l 78, .p .mv, [.v 2], none⟩,
      ⟨.l 79, .p .mv, [.v 4], none⟩,
      ⟨.v 80, .l (.cal 82), [.l 76, .l 77, .l 78, .l 79], none⟩])
    (.ite (.v 80)
      .ret
      .skip))
    .skip))
  (.seq
  (.seq
  (.reg [⟨.l 81, .p .mv, [.v 1], none⟩,
    ⟨.l 82, .p (.bin .gtr), [.l 81, .k (.m (.i .i64 0))], none⟩,
    ⟨.l 83, .p .mv, [.l 82], none⟩,
    ⟨.l 84, .p .mv, [.v 4], some (.l 83, true)⟩,
    ⟨.l 85, .p .mv, [.v 0], some (.l 83, true)⟩,
    ⟨.l 86, .p .mv, [.v 1], some (.l 83, true)⟩,
    ⟨.l 87, .p (.bin .sub), [.l 86, .k (.m (.i .i64 1))], some (.l 83, true)⟩,
    ⟨.l 88, .p (.ixa 3), [.l 85, .l 87], some (.l 83, true)⟩,
    ⟨.l 89, .r (.ld true 3), [.l 88], some (.l 83, true)⟩,
    ⟨.l 90, .p .mv, [.v 0], some (.l 83, true)⟩,
    ⟨.l 91, .p .mv, [.v 13], some (.l 83, true)⟩,
    ⟨.l 92, .p (.ixa 3), [.l 90, .l 91], some (.l 83, true)⟩,
    ⟨.l 93, .r (.ld true 3), [.l 92], some (.l 83, true)⟩,
    ⟨.l 94, .l .cav, [.l 84, .l 89, .l 93], some (.l 83, true)⟩,
    ⟨.l 95, .p (.bin .lss), [.l 94, .k (.m (.i .i64 0))], some (.l 83, true)⟩,
    ⟨.l 96, .p (.un .not), [.l 95], some (.l 83, true)⟩,
    ⟨.v 97, .p .pick, [.l 83, .l 96, .k (.m (.b false))], none⟩])
  (.ite (.v 97)
    (.seq
    (.reg [⟨.l 98, .p .mv, [.v 0], none⟩,
      ⟨.l 99, .p .mv, [.v 1], none⟩,
      ⟨.l 100, .p .mv, [.v 2], none⟩,
      ⟨.l 101, .p .mv, [.v 13], none⟩,
      ⟨.l 102, .p .mv, [.v 4], none⟩,
      ⟨.l 103, .l (.cal 83), [.l 98, .l 99, .l 100, .l 101, .l 102], none⟩,
      ⟨.v 15, .p .mv, [.l 103], none⟩])
    (.seq
    (.reg [⟨.l 104, .p .mv, [.v 15], none⟩,
      ⟨.v 1, .p .mv, [.l 104], none⟩])
    (.ex 1)))
    .skip))
  (.seq
  (.reg [⟨.l 106, .p .mv, [.v 0], none⟩,
    ⟨.l 107, .p .mv, [.v 1], none⟩,
    ⟨.l 108, .p .mv, [.v 2], none⟩,
    ⟨.l 109, .p .mv, [.v 13], none⟩,
    ⟨.l 110, .p .mv, [.v 4], none⟩,
    ⟨.l 111, .l (.cal 84), [.l 106, .l 107, .l 108, .l 109, .l 110], none⟩,
    ⟨.l 105, .p .mv, [.l 111], none⟩,
    ⟨.l 112, .p (.ext 0), [.l 105], none⟩,
    ⟨.l 113, .p (.ext 1), [.l 105], none⟩,
    ⟨.v 16, .p .mv, [.l 112], none⟩,
    ⟨.v 17, .p .mv, [.l 113], none⟩])
  (.seq
  (.reg [⟨.l 114, .p .mv, [.v 17], none⟩,
    ⟨.v 11, .p .mv, [.l 114], none⟩])
  (.seq
  (.reg [⟨.l 115, .p .mv, [.v 16], none⟩,
    ⟨.l 116, .p .mv, [.v 1], none⟩,
    ⟨.l 117, .p (.bin .sub), [.l 115, .l 116], none⟩,
    ⟨.l 118, .p .mv, [.v 2], none⟩,
    ⟨.l 119, .p .mv, [.v 16], none⟩,
    ⟨.l 120, .p (.bin .sub), [.l 118, .l 119], none⟩,
    ⟨.v 18, .p .mv, [.l 117], none⟩,
    ⟨.v 19, .p .mv, [.l 120], none⟩])
  (.seq
  (.reg [⟨.l 121, .p .mv, [.v 12], none⟩,
    ⟨.l 122, .p (.bin .quo), [.l 121, .k (.m (.i .i64 8))], none⟩,
    ⟨.v 20, .p .mv, [.l 122], none⟩])
  (.seq
  (.reg [⟨.l 123, .p .mv, [.v 18], none⟩,
    ⟨.l 124, .p .mv, [.v 19], none⟩,
    ⟨.v 125, .p (.bin .lss), [.l 123, .l 124], none⟩])
  (.ite (.v 125)
    (.seq
    (.reg [⟨.l 126, .p .mv, [.v 18], none⟩,
      ⟨.l 127, .p .mv, [.v 20], none⟩,
      ⟨.l 128, .p (.bin .geq), [.l 126, .l 127], none⟩,
      ⟨.v 10, .p .mv, [.l 128], none⟩])
    (.seq
    (.reg [⟨.l 129, .p .mv, [.v 0], none⟩,
      ⟨.l 130, .p .mv, [.v 1], none⟩,
      ⟨.l 131, .p .mv, [.v 16], none⟩,
      ⟨.l 132, .p .mv, [.v 3], none⟩,
      ⟨.l 133, .p .mv, [.v 4], none⟩,
      ⟨.l 134, .l (.cal 58), [.l 129, .l 130, .l 131, .l 132, .l 133], none⟩])
    (.reg [⟨.l 135, .p .mv, [.v 16], none⟩,
      ⟨.l 136, .p (.bin .add), [.l 135, .k (.m (.i .i64 1))], none⟩,
      ⟨.v 1, .p .mv, [.l 136], none⟩])))
    (.seq
    (.reg [⟨.l 137, .p .mv, [.v 19], none⟩,
      ⟨.l 138, .p .mv, [.v 20], none⟩,
      ⟨.l 139, .p (.bin .geq), [.l 137, .l 138], none⟩,
      ⟨.v 10, .p .mv, [.l 139], none⟩])
    (.seq
    (.reg [⟨.l 140, .p .mv, [.v 0], none⟩,
      ⟨.l 141, .p .mv, [.v 16], none⟩,
      ⟨.l 142, .p (.bin .add), [.l 141, .k (.m (.i .i64 1))], none⟩,
      ⟨.l 143, .p .mv, [.v 2], none⟩,
      ⟨.l 144, .p .mv, [.v 3], none⟩,
      ⟨.l 145, .p .mv, [.v 4], none⟩,
      ⟨.l 146, .l (.cal 58), [.l 140, .l 142, .l 143, .l 144, .l 145], none⟩])
    (.reg [⟨.l 147, .p .mv, [.v 16], none⟩,
      ⟨.v 2, .p .mv, [.l 147], none⟩]))))))))))))))))))
def c58_L0 : C := .loop [12, 13, 14, 15, 16, 17, 18, 19, 20, 25, 32, 39, 56, 75, 80, 97, 125] c58_B0
def c58 : F := ⟨5, [],
  (.seq
  (.reg [⟨.v 10, .p .mv, [.k (.m (.b true))], none⟩])
  (.seq
  (.reg [⟨.v 11, .p .mv, [.k (.m (.b true))], none⟩])
  (.blk 0
  c58_L0)))⟩

/- math/bits.Len -/
def c59 : F := ⟨1, [.t 2],
  (.seq
  (.reg [⟨.v 2, .p .mv, [.k (.m (.i .i64 0))], none⟩])
  (.seq
  (.ite (.k (.m (.b false)))
    (.seq
    (.reg [⟨.l 3, .p .mv, [.v 0], none⟩,
      ⟨.l 4, .p (.cv .u32), [.l 3], none⟩,
      ⟨.l 5, .l (.cal 85), [.l 4], none⟩,
      ⟨.v 2, .p .mv, [.l 5], none⟩])
    .ret)
    .skip)
  (.seq
  (.reg [⟨.l 6, .p .mv, [.v 0], none⟩,
    ⟨.l 7, .l (.cal 86), [.l 6], none⟩,
    ⟨.v 2, .p .mv, [.l 7], none⟩])
  .ret)))⟩

/- cellular/point.Compare -/
def c60 : F := ⟨2, [.t 4],
  (.seq
  (.reg [⟨.v 2, .l (.bxp 2 2), [.v 0], none⟩,
    ⟨.v 3, .l (.bxp 3 2), [.v 1], none⟩,
    ⟨.v 4, .p .mv, [.k (.m (.i .i64 0))], none⟩])
  (.seq
  (.reg [⟨.l 5, .p (.fad 1), [.v 2], none⟩,
    ⟨.l 6, .r (.ld false 1), [.l 5], none⟩,
    ⟨.l 7, .p (.fad 1), [.v 3], none⟩,
    ⟨.l 8, .r (.ld false 1), [.l 7], none⟩,
    ⟨.l 9, .l (.cal 88), [.l 6, .l 8], none⟩,
    ⟨.l 10, .p (.fad 0), [.v 2], none⟩,
    ⟨.l 11, .r (.ld false 1), [.l 10], none⟩,
    ⟨.l 12, .p (.fad 0), [.v 3], none⟩,
    ⟨.l 13, .r (.ld false 1), [.l 12], none⟩,
    ⟨.l 14, .l (.cal 88), [.l 11, .l 13], none⟩,
    ⟨.l 15, .p (.bsl 1 [.m (.i .i64 0)] 2 [0, 1]), [.l 9, .l 14], none⟩,
    ⟨.l 16, .l (.cal 87), [.l 15], none⟩,
    ⟨.v 4, .p .mv, [.l 16], none⟩])
  .ret))⟩

/- internal/strconv.FormatInt -/
def c62 : F := ⟨2, [.t 4],
  (.seq
  (.reg [⟨.v 4, .p .mv, [.k (.m (.s []))], none⟩])
  (.seq
  (.seq
  (.reg [⟨.l 10, .p .mv, [.v 1], none⟩,
    ⟨.v 11, .p (.bin .eql), [.l 10, .k (.m (.i .i64 10))], none⟩])
  (.ite (.v 11)
    (.seq
    (.seq
    (.reg [⟨.l 12, .p .mv, [.v 0], none⟩,
      ⟨.l 13, .p (.bin .leq), [.k (.m (.i .i64 0)), .l 12], none⟩,
      ⟨.l 14, .p .mv, [.l 13], none⟩,
      ⟨.l 15, .p .mv, [.v 0], some (.l 14, true)⟩,
      ⟨.l 16, .p (.bin .lss), [.l 15, .k (.m (.i .i64 100))], some (.l 14, true)⟩,
      ⟨.v 17, .p .pick, [.l 14, .l 16, .k (.m (.b false))], none⟩])
    (.ite (.v 17)
      (.seq
      (.reg [⟨.l 18, .p .mv, [.v 0], none⟩,
        ⟨.l 19, .l (.cal 89), [.l 18], none⟩,
        ⟨.v 4, .p .mv, [.l 19], none⟩])
      .ret)
      .skip))
    (.seq
    (.reg [⟨.v 5, .l (.als 116 1 24 [.m (.i .u8 0), .m (.i .u8 0), .m (.i .u8 0), .m (.i .u8 0), .m (.i .u8 0), .m (.i .u8 0), .m (.i .u8 0), .m (.i .u8 0), .m (.i .u8 0), .m (.i .u8 0), .m (.i .u8 0), .m (.i .u8 0), .m (.i .u8 0), .m (.i .u8 0), .m (.i .u8 0), .m (.i .u8 0), .m (.i .u8 0), .m (.i .u8 0), .m (.i .u8 0), .m (.i .u8 0), .m (.i .u8 0), .m (.i .u8 0), .m (.i .u8 0), .m (.i .u8 0)]), [], none⟩])
    (.seq
    (.reg [⟨.l 20, .p .mv, [.v 0], none⟩,
      ⟨.l 21, .p (.cv .u64), [.l 20], none⟩,
      ⟨.v 6, .p .mv, [.l 21], none⟩])
    (.seq
    (.seq
    (.reg [⟨.l 22, .p .mv, [.v 0], none⟩,
      ⟨.v 23, .p (.bin .lss), [.l 22, .k (.m (.i .i64 0))], none⟩])
    (.ite (.v 23)
      (.reg [⟨.l 24, .p .mv, [.v 6], none⟩,
        ⟨.l 25, .p (.un .neg), [.l 24], none⟩,
        ⟨.v 6, .p .mv, [.l 25], none⟩])
      .skip))
    (.seq
    (.reg [⟨.l 26, .p .mv, [.v 6], none⟩,
      ⟨.l 27, .l (.cal 90), [.l 26], none⟩,
      ⟨.v 7, .p .mv, [.l 27], none⟩])
    (.seq
    (.reg [⟨.l 28, .p .mv, [.v 7], none⟩,
      ⟨.l 29, .p (.bin .add), [.k (.m (.i .i64 1)), .l 28], none⟩,
      ⟨.l 30, .r (.slcA 24 1 true true false), [.v 5, .k (.m (.i .i64 1)), .l 29], none⟩,
      ⟨.l 31, .p .mv, [.v 6], none⟩,
      ⟨.l 32, .l (.cal 91), [.l 30, .l 31], none⟩])
    (.seq
    (.seq
    (.reg [⟨.l 33, .p .mv, [.v 0], none⟩,
      ⟨.v 34, .p (.bin .lss), [.l 33, .k (.m (.i .i64 0))], none⟩])
    (.ite (.v 34)
      (.seq
      (.reg [⟨.l 35, .p (.ixaA 24 1), [.v 5, .k (.m (.i .i64 0))], none⟩,
        ⟨.no, .l (.st 1), [.l 35, .k (.m (.i .u8 45))], none⟩])
      (.seq
      (.reg [⟨.l 36, .p .mv, [.v 7], none⟩,
        ⟨.l 37, .p (.bin .add), [.k (.m (.i .i64 1)), .l 36], none⟩,
        ⟨.l 38, .r (.slcA 24 1 false true false), [.v 5, .l 37], none⟩,
        ⟨.l 39, .r .b2s, [.l 38], none⟩,
        ⟨.v 4, .p .mv, [.l 39], none⟩])
      .ret))
      .skip))
    (.seq
    (.reg [⟨.l 40, .p .mv, [.v 7], none⟩,
      ⟨.l 41, .p (.bin .add), [.k (.m (.i .i64 1)), .l 40], none⟩,
      ⟨.l 42, .r (.slcA 24 1 true true false), [.v 5, .k (.m (.i .i64 1)), .l 41], none⟩,
      ⟨.l 43, .r .b2s, [.l 42], none⟩,
      ⟨.v 4, .p .mv, [.l 43], none⟩])
    .ret))))))))
    .skip))
  (.seq
  (.reg [⟨.l 45, .p .mv, [.v 0], none⟩,
    ⟨.l 46, .p (.cv .u64), [.l 45], none⟩,
    ⟨.l 47, .p .mv, [.v 1], none⟩,
    ⟨.l 48, .p .mv, [.v 0], none⟩,
    ⟨.l 49, .p (.bin .lss), [.l 48, .k (.m (.i .i64 0))], none⟩,
    ⟨.l 50, .l (.cal 92), [.k (.m (.nl 4)), .l 46, .l 47, .l 49, .k (.m (.b false))], none⟩,
    ⟨.l 44, .p .mv, [.l 50], none⟩,
    ⟨.l 51, .p (.ext 0), [.l 44], none⟩,
    ⟨.l 52, .p (.ext 1), [.l 44], none⟩,
    ⟨.l 8, .p .mv, [.l 51], none⟩,
    ⟨.v 9, .p .mv, [.l 52], none⟩])
  (.seq
  (.reg [⟨.l 53, .p .mv, [.v 9], none⟩,
    ⟨.v 4, .p .mv, [.l 53], none⟩])
  .ret))))⟩

/- internal/stringslite.Index -/
def c63_B0 : C :=
  (.seq
  (.seq
  (.reg [⟨.l 57, .p .mv, [.v 8], none⟩,
    ⟨.l 58, .p .mv, [.v 9], none⟩,
    ⟨.v 59, .p (.bin .lss), [.l 57, .l 58], none⟩])
  (.ite (.v 59)
    .skip
    (.ex 1)))
  (.blk 2
  (.seq
  (.seq
  (.reg [⟨.l 60, .p .mv, [.v 0], none⟩,
    ⟨.l 61, .p .mv, [.v 8], none⟩,
    ⟨.l 62, .p .ixs, [.l 60, .l 61], none⟩,
    ⟨.l 63, .p .mv, [.v 6], none⟩,
    ⟨.v 64, .p (.bin .neq), [.l 62, .l 63], none⟩])
  (.ite (.v 64)
    (.seq
    (.reg [⟨.l 65, .p .mv, [.v 0], none⟩,
      ⟨.l 66, .p .mv, [.v 8], none⟩,
      ⟨.l 67, .p (.bin .add), [.l 66, .k (.m (.i .i64 1))], none⟩,
      ⟨.l 68, .p .mv, [.v 9], none⟩,
      ⟨.l 69, .p (.slc 0 true true false), [.l 65, .l 67, .l 68], none⟩,
      ⟨.l 70, .p .mv, [.v 6], none⟩,
      ⟨.l 71, .l (.cal 93), [.l 69, .l 70], none⟩,
      ⟨.v 11, .p .mv, [.l 71], none⟩])
    (.seq
    (.seq
    (.reg [⟨.l 72, .p .mv, [.v 11], none⟩,
      ⟨.v 73, .p (.bin .lss), [.l 72, .k (.m (.i .i64 0))], none⟩])
    (.ite (.v 73)
      (.seq
      (.reg [⟨.v 4, .p .mv, [.k (.m (.i .i64 (-1)))], none⟩])
      .ret)
      .skip))
    (.reg [⟨.l 74, .p .mv, [.v 8], none⟩,
      ⟨.l 75, .p .mv, [.v 11], none⟩,
      ⟨.l 76, .p (.bin .add), [.l 75, .k (.m (.i .i64 1))], none⟩,
      ⟨.l 77, .p (.bin .add), [.l 74, .l 76], none⟩,
      ⟨.v 8, .p .mv, [.l 77], none⟩])))
    .skip))
  (.seq
  (.seq
  (.reg [⟨.l 78, .p .mv, [.v 0], none⟩,
    ⟨.l 79, .p .mv, [.v 8], none⟩,
    ⟨.l 80, .p (.bin .add), [.l 79, .k (.m (.i .i64 1))], none⟩,
    ⟨.l 81, .p .ixs, [.l 78, .l 80], none⟩,
    ⟨.l 82, .p .mv, [.v 7], none⟩,
    ⟨.l 83, .p (.bin .eql), [.l 81, .l 82], none⟩,
    ⟨.l 84, .p .mv, [.l 83], none⟩,
    ⟨.l 85, .p .mv, [.v 0], some (.l 84, true)⟩,
    ⟨.l 86, .p .mv, [.v 8], some (.l 84, true)⟩,
    ⟨.l 87, .p .mv, [.v 8], some (.l 84, true)⟩,
    ⟨.l 88, .p .mv, [.v 5], some (.l 84, true)⟩,
    ⟨.l 89, .p (.bin .add), [.l 87, .l 88], some (.l 84, true)⟩,
    ⟨.l 90, .p (.slc 0 true true false), [.l 85, .l 86, .l 89], some (.l 84, true)⟩,
    ⟨.l 91, .p .mv, [.v 1], some (.l 84, true)⟩,
    ⟨.l 92, .p (.bin .eql), [.l 90, .l 91], some (.l 84, true)⟩,
    ⟨.v 93, .p .pick, [.l 84, .l 92, .k (.m (.b false))], none⟩])
  (.ite (.v 93)
    (.seq
    (.reg [⟨.l 94, .p .mv, [.v 8], none⟩,
      ⟨.v 4, .p .mv, [.l 94], none⟩])
    .ret)
    .skip))
  (.seq
  (.reg [⟨.l 95, .p .mv, [.v 8], none⟩,
    ⟨.l 96, .p (.bin .add), [.l 95, .k (.m (.i .i64 1))], none⟩,
    ⟨.v 8, .p .mv, [.l 96], none⟩])
  (.seq
  (.reg [⟨.l 97, .p .mv, [.v 10], none⟩,
    ⟨.l 98, .p (.bin .add), [.l 97, .k (.m (.i .i64 1))], none⟩,
    ⟨.v 10, .p .mv, [.l 98], none⟩])
  (.seq
  (.reg [⟨.l 99, .p .mv, [.v 5], none⟩,
    ⟨.l 100, .p .mv, [], none⟩,
    ⟨.l 101, .p (.bin .leq), [.l 99, .l 100], none⟩,
    ⟨.l 102, .p .mv, [.l 101], none⟩,
    ⟨.l 103, .p .mv, [.v 10], some (.l 102, true)⟩,
    ⟨.l 104, .p .mv, [.v 8], some (.l 102, true)⟩,
    ⟨.l 105, .l (.cal 95), [.l 104], some (.l 102, true)⟩,
    ⟨.l 106, .p (.bin .gtr), [.l 103, .l 105], some (.l 102, true)⟩,
    ⟨.v 107, .p .pick, [.l 102, .l 106, .k (.m (.b false))], none⟩])
  (.ite (.v 107)
    (.seq
    (.reg [⟨.l 108, .p .mv, [.v 0], none⟩,
      ⟨.l 109, .p .mv, [.v 8], none⟩,
      ⟨.l 110, .p (.slc 0 true false false), [.l 108, .l 109], none⟩,
      ⟨.l 111, .p .mv, [.v 1], none⟩,
      ⟨.l 112, .l (.cal 94), [.l 110, .l 111], none⟩,
      ⟨.v 12, .p .mv, [.l 112], none⟩])
    (.seq
    (.seq
    (.reg [⟨.l 113, .p .mv, [.v 12], none⟩,
      ⟨.v 114, .p (.bin .geq), [.l 113, .k (.m (.i .i64 0))], none⟩])
    (.ite (.v 114)
      (.seq
      (.reg [⟨.l 115, .p .mv, [.v 12], none⟩,
        ⟨.l 116, .p .mv, [.v 8], none⟩,
        ⟨.l 117, .p (.bin .add), [.l 115, .l 116], none⟩,
        ⟨.v 4, .p .mv, [.l 117], none⟩])
      .ret)
      .skip))
    (.seq
    (.reg [⟨.v 4, .p .mv, [.k (.m (.i .i64 (-1)))], none⟩])
    .ret)))
    (.seq
    (.reg [⟨.l 118, .p .mv, [.v 5], none⟩,
      ⟨.l 119, .p .mv, [], none⟩,
      ⟨.l 120, .p (.bin .gtr), [.l 118, .l 119], none⟩,
      ⟨.l 121, .p .mv, [.l 120], none⟩,
      ⟨.l 122, .p .mv, [.v 10], some (.l 121, true)⟩,
      ⟨.l 123, .p .mv, [.v 8], some (.l 121, true)⟩,
      ⟨.l 124, .p (.bin .shr), [.l 123, .k (.m (.i .u64 4))], some (.l 121, true)⟩,
      ⟨.l 125, .p (.bin .add), [.k (.m (.i .i64 4)), .l 124], some (.l 121, true)⟩,
      ⟨.l 126, .p (.bin .geq), [.l 122, .l 125], some (.l 121, true)⟩,
      ⟨.l 127, .p .pick, [.l 121, .l 126, .k (.m (.b false))], none⟩,
      ⟨.l 128, .p .mv, [.l 127], none⟩,
      ⟨.l 129, .p .mv, [.v 8], some (.l 128, true)⟩,
      ⟨.l 130, .p .mv, [.v 9], some (.l 128, true)⟩,
      ⟨.l 131, .p (.bin .lss), [.l 129, .l 130], some (.l 128, true)⟩,
      ⟨.v 132, .p .pick, [.l 128, .l 131, .k (.m (.b false))], none⟩])
    (.ite (.v 132)
      (.seq
      (.reg [⟨.l 133, .p .mv, [.v 0], none⟩,
        ⟨.l 134, .p .mv, [.v 8], none⟩,
        ⟨.l 135, .p (.slc 0 true false false), [.l 133, .l 134], none⟩,
        ⟨.l 136, .p .mv, [.v 1], none⟩,
        ⟨.l 137, .l (.cal 96), [.l 135, .l 136], none⟩,
        ⟨.v 13, .p .mv, [.l 137], none⟩])
      (.seq
      (.seq
      (.reg [⟨.l 138, .p .mv, [.v 13], none⟩,
        ⟨.v 139, .p (.bin .lss), [.l 138, .k (.m (.i .i64 0))], none⟩])
      (.ite (.v 139)
        (.seq
        (.reg [⟨.v 4, .p .mv, [.k (.m (.i .i64 (-1)))], none⟩])
        .ret)
        .skip))
      (.seq
      (.reg [⟨.l 140, .p .mv, [.v 8], none⟩,
        ⟨.l 141, .p .mv, [.v 13], none⟩,
        ⟨.l 142, .p (.bin .add), [.l 140, .l 141], none⟩,
        ⟨.v 4, .p .mv, [.l 142], none⟩])
      .ret)))
      .skip))))))))))
def c63_L0 : C := .loop [4, 11, 16, 24, 31, 36, 59, 64, 73, 93, 107, 132] c63_B0
def c63 : F := ⟨2, [.t 4],
  (.seq
  (.reg [⟨.v 4, .p .mv, [.k (.m (.i .i64 0))], none⟩])
  (.seq
  (.reg [⟨.l 14, .p .mv, [.v 1], none⟩,
    ⟨.l 15, .p (.len true), [.l 14], none⟩,
    ⟨.v 5, .p .mv, [.l 15], none⟩])
  (.seq
  (.blk 0
  (.seq
  (.reg [⟨.l 17, .p .mv, [.v 5], none⟩,
    ⟨.l 18, .p (.bin .eql), [.l 17, .k (.m (.i .i64 0))], none⟩,
    ⟨.l 19, .p .mv, [.l 18], none⟩,
    ⟨.l 20, .p .mv, [.v 1], some (.l 19, false)⟩,
    ⟨.l 21, .p .mv, [.v 0], some (.l 19, false)⟩,
    ⟨.l 22, .p (.bin .eql), [.l 20, .l 21], some (.l 19, false)⟩,
    ⟨.l 23, .p .pick, [.l 19, .k (.m (.b true)), .l 22], none⟩,
    ⟨.v 16, .p .mv, [.l 23], none⟩])
  (.ite (.v 16)
    (.seq
    (.reg [⟨.v 4, .p .mv, [.k (.m (.i .i64 0))], none⟩])
    .ret)
    (.seq
    (.reg [⟨.l 25, .p .mv, [.v 5], none⟩,
      ⟨.l 26, .p (.bin .eql), [.l 25, .k (.m (.i .i64 1))], none⟩,
      ⟨.v 24, .p .mv, [.l 26], none⟩])
    (.ite (.v 24)
      (.seq
      (.reg [⟨.l 27, .p .mv, [.v 0], none⟩,
        ⟨.l 28, .p .mv, [.v 1], none⟩,
        ⟨.l 29, .p .ixs, [.l 28, .k (.m (.i .i64 0))], none⟩,
        ⟨.l 30, .l (.cal 93), [.l 27, .l 29], none⟩,
        ⟨.v 4, .p .mv, [.l 30], none⟩])
      .ret)
      (.seq
      (.reg [⟨.l 32, .p .mv, [.v 5], none⟩,
        ⟨.l 33, .p .mv, [.v 0], none⟩,
        ⟨.l 34, .p (.len true), [.l 33], none⟩,
        ⟨.l 35, .p (.bin .geq), [.l 32, .l 34], none⟩,
        ⟨.v 31, .p .mv, [.l 35], none⟩])
      (.ite (.v 31)
        (.seq
        (.reg [⟨.v 4, .p .mv, [.k (.m (.i .i64 (-1)))], none⟩])
        .ret)
        (.seq
        (.reg [⟨.l 37, .p .mv, [.v 5], none⟩,
          ⟨.l 38, .p .mv, [], none⟩,
          ⟨.l 39, .p (.bin .leq), [.l 37, .l 38], none⟩,
          ⟨.l 40, .p .mv, [.l 39], none⟩,
          ⟨.l 41, .p .mv, [.v 0], some (.l 40, true)⟩,
          ⟨.l 42, .p (.len true), [.l 41], some (.l 40, true)⟩,
          ⟨.l 43, .p (.bin .leq), [.l 42, .k (.m (.i .i64 64))], some (.l 40, true)⟩,
          ⟨.l 44, .p .pick, [.l 40, .l 43, .k (.m (.b false))], none⟩,
          ⟨.v 36, .p .mv, [.l 44], none⟩])
        (.ite (.v 36)
          (.seq
          (.reg [⟨.l 45, .p .mv, [.v 0], none⟩,
            ⟨.l 46, .p .mv, [.v 1], none⟩,
            ⟨.l 47, .l (.cal 94), [.l 45, .l 46], none⟩,
            ⟨.v 4, .p .mv, [.l 47], none⟩])
          .ret)
          .skip)))))))))
  (.seq
  (.reg [⟨.l 48, .p .mv, [.v 1], none⟩,
    ⟨.l 49, .p .ixs, [.l 48, .k (.m (.i .i64 0))], none⟩,
    ⟨.v 6, .p .mv, [.l 49], none⟩])
  (.seq
  (.reg [⟨.l 50, .p .mv, [.v 1], none⟩,
    ⟨.l 51, .p .ixs, [.l 50, .k (.m (.i .i64 1))], none⟩,
    ⟨.v 7, .p .mv, [.l 51], none⟩])
  (.seq
  (.reg [⟨.v 8, .p .mv, [.k (.m (.i .i64 0))], none⟩])
  (.seq
  (.reg [⟨.l 52, .p .mv, [.v 0], none⟩,
    ⟨.l 53, .p (.len true), [.l 52], none⟩,
    ⟨.l 54, .p .mv, [.v 5], none⟩,
    ⟨.l 55, .p (.bin .sub), [.l 53, .l 54], none⟩,
    ⟨.l 56, .p (.bin .add), [.l 55, .k (.m (.i .i64 1))], none⟩,
    ⟨.v 9, .p .mv, [.l 56], none⟩])
  (.seq
  (.reg [⟨.v 10, .p .mv, [.k (.m (.i .i64 0))], none⟩])
  (.seq
  (.blk 1
  c63_L0)
  (.seq
  (.reg [⟨.v 4, .p .mv, [.k (.m (.i .i64 (-1)))], none⟩])
  .ret))))))))))⟩

/- internal/stringslite.HasPrefix -/
def c64 : F := ⟨2, [.t 4],
  (.seq
  (.reg [⟨.v 4, .p .mv, [.k (.m (.b false))], none⟩])
  (.seq
  (.reg [⟨.l 5, .p .mv, [.v 0], none⟩,
    ⟨.l 6, .p (.len true), [.l 5], none⟩,
    ⟨.l 7, .p .mv, [.v 1], none⟩,
    ⟨.l 8, .p (.len true), [.l 7], none⟩,
    ⟨.l 9, .p (.bin .geq), [.l 6, .l 8], none⟩,
    ⟨.l 10, .p .mv, [.l 9], none⟩,
    ⟨.l 11, .p .mv, [.v 0], some (.l 10, true)⟩,
    ⟨.l 12, .p .mv, [.v 1], some (.l 10, true)⟩,
    ⟨.l 13, .p (.len true), [.l 12], some (.l 10, true)⟩,
    ⟨.l 14, .p (.slc 0 false true false), [.l 11, .l 13], some (.l 10, true)⟩,
    ⟨.l 15, .p .mv, [.v 1], some (.l 10, true)⟩,
    ⟨.l 16, .p (.bin .eql), [.l 14, .l 15], some (.l 10, true)⟩,
    ⟨.l 17, .p .pick, [.l 10, .l 16, .k (.m (.b false))], none⟩,
    ⟨.v 4, .p .mv, [.l 17], none⟩])
  .ret))⟩

/- strings.trimLeftByte -/
def c65_B0 : C :=
  (.seq
  (.seq
  (.reg [⟨.l 5, .p .mv, [.v 0], none⟩,
    ⟨.l 6, .p (.len true), [.l 5], none⟩,
    ⟨.l 7, .p (.bin .gtr), [.l 6, .k (.m (.i .i64 0))], none⟩,
    ⟨.l 8, .p .mv, [.l 7], none⟩,
    ⟨.l 9, .p .mv, [.v 0], some (.l 8, true)⟩,
    ⟨.l 10, .p .ixs, [.l 9, .k (.m (.i .i64 0))], some (.l 8, true)⟩,
    ⟨.l 11, .p .mv, [.v 1], some (.l 8, true)⟩,
    ⟨.l 12, .p (.bin .eql), [.l 10, .l 11], some (.l 8, true)⟩,
    ⟨.v 13, .p .pick, [.l 8, .l 12, .k (.m (.b false))], none⟩])
  (.ite (.v 13)
    .skip
    (.ex 0)))
  (.blk 1
  (.reg [⟨.l 14, .p .mv, [.v 0], none⟩,
    ⟨.l 15, .p (.slc 0 true false false), [.l 14, .k (.m (.i .i64 1))], none⟩,
    ⟨.v 0, .p .mv, [.l 15], none⟩])))
def c65_L0 : C := .loop [4, 13] c65_B0
def c65 : F := ⟨2, [.t 4],
  (.seq
  (.reg [⟨.v 4, .p .mv, [.k (.m (.s []))], none⟩])
  (.seq
  (.blk 0
  c65_L0)
  (.seq
  (.reg [⟨.l 16, .p .mv, [.v 0], none⟩,
    ⟨.v 4, .p .mv, [.l 16], none⟩])
  .ret)))⟩

/- strings.trimRightByte -/
def c66_B0 : C :=
  (.seq
  (.seq
  (.reg [⟨.l 5, .p .mv, [.v 0], none⟩,
    ⟨.l 6, .p (.len true), [.l 5], none⟩,
    ⟨.l 7, .p (.bin .gtr), [.l 6, .k (.m (.i .i64 0))], none⟩,
    ⟨.l 8, .p .mv, [.l 7], none⟩,
    ⟨.l 9, .p .mv, [.v 0], some (.l 8, true)⟩,
    ⟨.l 10, .p .mv, [.v 0], some (.l 8, true)⟩,
    ⟨.l 11, .p (.len true), [.l 10], some (.l 8, true)⟩,
    ⟨.l 12, .p (.bin .sub), [.l 11, .k (.m (.i .i64 1))], some (.l 8, true)⟩,
    ⟨.l 13, .p .ixs, [.l 9, .l 12], some (.l 8, true)⟩,
    ⟨.l 14, .p .mv, [.v 1], some (.l 8, true)⟩,
    ⟨.l 15, .p (.bin .eql), [.l 13, .l 14], some (.l 8, true)⟩,
    ⟨.v 16, .p .pick, [.l 8, .l 15, .k (.m (.b false))], none⟩])
  (.ite (.v 16)
    .skip
    (.ex 0)))
  (.blk 1
  (.reg [⟨.l 17, .p .mv, [.v 0], none⟩,
    ⟨.l 18, .p .mv, [.v 0], none⟩,
    ⟨.l 19, .p (.len true), [.l 18], none⟩,
    ⟨.l 20, .p (.bin .sub), [.l 19, .k (.m (.i .i64 1))], none⟩,
    ⟨.l 21, .p (.slc 0 false true false), [.l 17, .l 20], none⟩,
    ⟨.v 0, .p .mv, [.l 21], none⟩])))
def c66_L0 : C := .loop [4, 16] c66_B0
def c66 : F := ⟨2, [.t 4],
  (.seq
  (.reg [⟨.v 4, .p .mv, [.k (.m (.s []))], none⟩])
  (.seq
  (.blk 0
  c66_L0)
  (.seq
  (.reg [⟨.l 22, .p .mv, [.v 0], none⟩,
    ⟨.v 4, .p .mv, [.l 22], none⟩])
  .ret)))⟩

/- strings.makeASCIISet -/
def c67_B0 : C :=
  (.seq
  (.seq
  (.reg [⟨.l 6, .p .mv, [.v 4], none⟩,
    ⟨.l 7, .p .mv, [.v 0], none⟩,
    ⟨.l 8, .p (.len true), [.l 7], none⟩,
    ⟨.v 9, .p (.bin .lss), [.l 6, .l 8], none⟩])
  (.ite (.v 9)
    .skip
    (.ex 0)))
  (.seq
  (.blk 1
  (.seq
  (.reg [⟨.l 12, .p .mv, [.v 0], none⟩,
    ⟨.l 13, .p .mv, [.v 4], none⟩,
    ⟨.l 14, .p .ixs, [.l 12, .l 13], none⟩,
    ⟨.v 5, .p .mv, [.l 14], none⟩])
  (.seq
  (.seq
  (.reg [⟨.l 15, .p .mv, [.v 5], none⟩,
    ⟨.v 16, .p (.bin .geq), [.l 15, .k (.m (.i .u8 128))], none⟩])
  (.ite (.v 16)
    (.seq
    (.reg [⟨.l 17, .r (.ld true 256), [.v 2], none⟩,
      ⟨.no, .l (.st 256), [.v 2, .l 17], none⟩,
      ⟨.v 3, .p .mv, [.k (.m (.b false))], none⟩])
    .ret)
    .skip))
  (.reg [⟨.l 18, .p .mv, [.v 5], none⟩,
    ⟨.l 19, .p (.ixaA 256 1), [.v 2, .l 18], none⟩,
    ⟨.no, .l (.st 1), [.l 19, .k (.m (.b true))], none⟩]))))
  (.reg [⟨.l 10, .p .mv, [.v 4], none⟩,
    ⟨.l 11, .p (.bin .add), [.l 10, .k (.m (.i .i64 1))], none⟩,
    ⟨.v 4, .p .mv, [.l 11], none⟩])))
def c67_L0 : C := .loop [3, 5, 9, 16] c67_B0
def c67 : F := ⟨1, [.c 2 256 true, .t 3],
  (.seq
  (.reg [⟨.v 2, .l (.alp 2 [.m (.b false), .m (.b false), .m (.b false), .m (.b false), .m (.b false), .m (.b false), .m (.b false), .m (.b false), .m (.b false), .m (.b false), .m (.b false), .m (.b false), .m (.b false), .m (.b false), .m (.b false), .m (.b false), .m (.b false), .m (.b false), .m (.b false), .m (.b false), .m (.b false), .m (.b false), .m (.b false), .m (.b false), .m (.b false), .m (.b false), .m (.b false), .m (.b false), .m (.b false), .m (.b false), .m (.b false), .m (.b false), .m (.b false), .m (.b false), .m (.b false), .m (.b false), .m (.b false), .m (.b false), .m (.b false), .m (.b false), .m (.b false), .m (.b false), .m (.b false), .m (.b false), .m (.b false), .m (.b false), .m (.b false), .m (.b false), .m (.b false), .m (.b false), .m (.b false), .m (.b false), .m (.b false), .m (.b false), .m (.b false), .m (.b false), .m (.b false), .m (.b false), .m (.b false), .m (.b false), .m (.b false), .m (.b false), .m (.b false), .m (.b false), .m (.b false), .m (.b false), .m (.b false), .m (.b false), .m (.b false), .m (.b false), .m (.b false), .m (.b false), .m (.b false), .m (.b false), .m (.b false), .m (.b false), .m (.b false), .m (.b false), .m (.b false), .m (.b false), .m (.b false), .m (.b false), .m (.b false), .m (.b false), .m (.b false), .m (.b false), .m (.b false), .m (.b false), .m (.b false), .m (.b false), .m (.b false), .m (.b false), .m (.b false), .m (.b false), .m (.b false), .m (.b false), .m (.b false), .m (.b false), .m (.b false), .m (.b false), .m (.b false), .m (.b false), .m (.b false), .m (.b false), .m (.b false), .m (.b false), .m (.b false), .m (.b false), .m (.b false), .m (.b false), .m (.b false), .m (.b false), .m (.b false), .m (.b false), .m (.b false), .m (.b false), .m (.b false), .m (.b false), .m (.b false), .m (.b false), .m (.b false), .m (.b false), .m (.b false), .m (.b false), .m (.b false), .m (.b false), .m (.b false), .m (.b false), .m (.b false), .m (.b false), .m (.b false), .m (.b false), .m (.b false), .m (.b false), .m (.b false), .m (.b false), .m (.b false), .m (.b false), .m (.b false), .m (.b false), .m (.b false), .m (.b false), .m (.b false), .m (.b false), .m (.b false), .m (.b false), .m (.b false), .m (.b false), .m (.b false), .m (.b false), .m (.b false), .m (.b false), .m (.b false), .m (.b false), .m (.b false), .m (.b false), .m (.b false), .m (.b false), .m (.b false), .m (.b false), .m (.b false), .m (.b false), .m (.b false), .m (.b false), .m (.b false), .m (.b false), .m (.b false), .m (.b false), .m (.b false), .m (.b false), .m (.b false), .m (.b false), .m (.b false), .m (.b false), .m (.b false), .m (.b false), .m (.b false), .m (.b false), .m (.b false), .m (.b false), .m (.b false), .m (.b false), .m (.b false), .m (.b false), .m (.b false), .m (.b false), .m (.b false), .m (.b false), .m (.b false), .m (.b false), .m (.b false), .m (.b false), .m (.b false), .m (.b false), .m (.b false), .m (.b false), .m (.b false), .m (.b false), .m (.b false), .m (.b false), .m (.b false), .m (.b false), .m (.b false), .m (.b false), .m (.b false), .m (.b false), .m (.b false), .m (.b false), .m (.b false), .m (.b false), .m (.b false), .m (.b false), .m (.b false), .m (.b false), .m (.b false), .m (.b false), .m (.b false), .m (.b false), .m (.b false), .m (.b false), .m (.b false), .m (.b false), .m (.b false), .m (.b false), .m (.b false), .m (.b false), .m (.b false), .m (.b false), .m (.b false), .m (.b false), .m (.b false), .m (.b false), .m (.b false), .m (.b false), .m (.b false), .m (.b false), .m (.b false), .m (.b false), .m (.b false), .m (.b false), .m (.b false), .m (.b false), .m (.b false), .m (.b false), .m (.b false), .m (.b false), .m (.b false), .m (.b false), .m (.b false), .m (.b false), .m (.b false), .m (.b false), .m (.b false), .m (.b false), .m (.b false), .m (.b false)]), [], none⟩,
    ⟨.v 3, .p .mv, [.k (.m (.b false))], none⟩])
  (.seq
  (.seq
  (.reg [⟨.v 4, .p .mv, [.k (.m (.i .i64 0))], none⟩])
  (.blk 0
  c67_L0))
  (.seq
  (.reg [⟨.l 20, .r (.ld true 256), [.v 2], none⟩,
    ⟨.no, .l (.st 256), [.v 2, .l 20], none⟩,
    ⟨.v 3, .p .mv, [.k (.m (.b true))], none⟩])
  .ret)))⟩

/- strings.trimLeftASCII -/
def c68_B0 : C :=
  (.seq
  (.seq
  (.reg [⟨.l 5, .p .mv, [.v 0], none⟩,
    ⟨.l 6, .p (.len true), [.l 5], none⟩,
    ⟨.v 7, .p (.bin .gtr), [.l 6, .k (.m (.i .i64 0))], none⟩])
  (.ite (.v 7)
    .skip
    (.ex 0)))
  (.blk 1
  (.seq
  (.seq
  (.reg [⟨.l 8, .p .mv, [.v 1], none⟩,
    ⟨.l 9, .p .mv, [.v 0], none⟩,
    ⟨.l 10, .p .ixs, [.l 9, .k (.m (.i .i64 0))], none⟩,
    ⟨.l 11, .l (.cal 97), [.l 8, .l 10], none⟩,
    ⟨.v 12, .p (.un .not), [.l 11], none⟩])
  (.ite (.v 12)
    (.ex 0)
    .skip))
  (.reg [⟨.l 13, .p .mv, [.v 0], none⟩,
    ⟨.l 14, .p (.slc 0 true false false), [.l 13, .k (.m (.i .i64 1))], none⟩,
    ⟨.v 0, .p .mv, [.l 14], none⟩]))))
def c68_L0 : C := .loop [4, 7, 12] c68_B0
def c68 : F := ⟨2, [.t 4],
  (.seq
  (.reg [⟨.v 4, .p .mv, [.k (.m (.s []))], none⟩])
  (.seq
  (.blk 0
  c68_L0)
  (.seq
  (.reg [⟨.l 15, .p .mv, [.v 0], none⟩,
    ⟨.v 4, .p .mv, [.l 15], none⟩])
  .ret)))⟩

/- strings.trimRightASCII -/
def c69_B0 : C :=
  (.seq
  (.seq
  (.reg [⟨.l 5, .p .mv, [.v 0], none⟩,
    ⟨.l 6, .p (.len true), [.l 5], none⟩,
    ⟨.v 7, .p (.bin .gtr), [.l 6, .k (.m (.i .i64 0))], none⟩])
  (.ite (.v 7)
    .skip
    (.ex 0)))
  (.blk 1
  (.seq
  (.seq
  (.reg [⟨.l 8, .p .mv, [.v 1], none⟩,
    ⟨.l 9, .p .mv, [.v 0], none⟩,
    ⟨.l 10, .p .mv, [.v 0], none⟩,
    ⟨.l 11, .p (.len true), [.l 10], none⟩,
    ⟨.l 12, .p (.bin .sub), [.l 11, .k (.m (.i .i64 1))], none⟩,
    ⟨.l 13, .p .ixs, [.l 9, .l 12], none⟩,
    ⟨.l 14, .l (.cal 97), [.l 8, .l 13], none⟩,
    ⟨.v 15, .p (.un .not), [.l 14], none⟩])
  (.ite (.v 15)
    (.ex 0)
    .skip))
  (.reg [⟨.l 16, .p .mv, [.v 0], none⟩,
    ⟨.l 17, .p .mv, [.v 0], none⟩,
    ⟨.l 18, .p (.len true), [.l 17], none⟩,
    ⟨.l 19, .p (.bin .sub), [.l 18, .k (.m (.i .i64 1))], none⟩,
    ⟨.l 20, .p (.slc 0 false true false), [.l 16, .l 19], none⟩,
    ⟨.v 0, .p .mv, [.l 20], none⟩]))))
def c69_L0 : C := .loop [4, 7, 15] c69_B0
def c69 : F := ⟨2, [.t 4],
  (.seq
  (.reg [⟨.v 4, .p .mv, [.k (.m (.s []))], none⟩])
  (.seq
  (.blk 0
  c69_L0)
  (.seq
  (.reg [⟨.l 21, .p .mv, [.v 0], none⟩,
    ⟨.v 4, .p .mv, [.l 21], none⟩])
  .ret)))⟩

/- strings.trimLeftUnicode -/
def c70_B0 : C :=
  (.seq
  (.seq
  (.reg [⟨.l 7, .p .mv, [.v 0], none⟩,
    ⟨.l 8, .p (.len true), [.l 7], none⟩,
    ⟨.v 9, .p (.bin .gtr), [.l 8, .k (.m (.i .i64 0))], none⟩])
  (.ite (.v 9)
    .skip
    (.ex 0)))
  (.blk 1
  (.seq
  (.reg [⟨.l 11, .p .mv, [.v 0], none⟩,
    ⟨.l 12, .l (.cal 98), [.l 11], none⟩,
    ⟨.l 10, .p .mv, [.l 12], none⟩,
    ⟨.l 13, .p (.ext 0), [.l 10], none⟩,
    ⟨.l 14, .p (.ext 1), [.l 10], none⟩,
    ⟨.v 5, .p .mv, [.l 13], none⟩,
    ⟨.v 6, .p .mv, [.l 14], none⟩])
  (.seq
  (.seq
  (.reg [⟨.l 15, .p .mv, [.v 1], none⟩,
    ⟨.l 16, .p .mv, [.v 5], none⟩,
    ⟨.l 17, .l (.cal 99), [.l 15, .l 16], none⟩,
    ⟨.v 18, .p (.un .not), [.l 17], none⟩])
  (.ite (.v 18)
    (.ex 0)
    .skip))
  (.reg [⟨.l 19, .p .mv, [.v 0], none⟩,
    ⟨.l 20, .p .mv, [.v 6], none⟩,
    ⟨.l 21, .p (.slc 0 true false false), [.l 19, .l 20], none⟩,
    ⟨.v 0, .p .mv, [.l 21], none⟩])))))
def c70_L0 : C := .loop [4, 5, 6, 9, 18] c70_B0
def c70 : F := ⟨2, [.t 4],
  (.seq
  (.reg [⟨.v 4, .p .mv, [.k (.m (.s []))], none⟩])
  (.seq
  (.blk 0
  c70_L0)
  (.seq
  (.reg [⟨.l 22, .p .mv, [.v 0], none⟩,
    ⟨.v 4, .p .mv, [.l 22], none⟩])
  .ret)))⟩

/- strings.trimRightUnicode -/
def c71_B0 : C :=
  (.seq
  (.seq
  (.reg [⟨.l 7, .p .mv, [.v 0], none⟩,
    ⟨.l 8, .p (.len true), [.l 7], none⟩,
    ⟨.v 9, .p (.bin .gtr), [.l 8, .k (.m (.i .i64 0))], none⟩])
  (.ite (.v 9)
    .skip
    (.ex 0)))
  (.blk 1
  (.seq
  (.reg [⟨.l 10, .p .mv, [.v 0], none⟩,
    ⟨.l 11, .p .mv, [.v 0], none⟩,
    ⟨.l 12, .p (.len true), [.l 11], none⟩,
    ⟨.l 13, .p (.bin .sub), [.l 12, .k (.m (.i .i64 1))], none⟩,
    ⟨.l 14, .p .ixs, [.l 10, .l 13], none⟩,
    ⟨.l 15, .p (.cv .i32), [.l 14], none⟩,
    ⟨.v 5, .p .mv, [.l 15], none⟩,
    ⟨.v 6, .p .mv, [.k (.m (.i .i64 1))], none⟩])
  (.seq
  (.seq
  (.reg [⟨.l 16, .p .mv, [.v 5], none⟩,
    ⟨.v 17, .p (.bin .geq), [.l 16, .k (.m (.i .i32 128))], none⟩])
  (.ite (.v 17)
    (.reg [⟨.l 19, .p .mv, [.v 0], none⟩,
      ⟨.l 20, .l (.cal 100), [.l 19], none⟩,
      ⟨.l 18, .p .mv, [.l 20], none⟩,
      ⟨.l 21, .p (.ext 0), [.l 18], none⟩,
      ⟨.l 22, .p (.ext 1), [.l 18], none⟩,
      ⟨.v 5, .p .mv, [.l 21], none⟩,
      ⟨.v 6, .p .mv, [.l 22], none⟩])
    .skip))
  (.seq
  (.seq
  (.reg [⟨.l 23, .p .mv, [.v 1], none⟩,
    ⟨.l 24, .p .mv, [.v 5], none⟩,
    ⟨.l 25, .l (.cal 99), [.l 23, .l 24], none⟩,
    ⟨.v 26, .p (.un .not), [.l 25], none⟩])
  (.ite (.v 26)
    (.ex 0)
    .skip))
  (.reg [⟨.l 27, .p .mv, [.v 0], none⟩,
    ⟨.l 28, .p .mv, [.v 0], none⟩,
    ⟨.l 29, .p (.len true), [.l 28], none⟩,
    ⟨.l 30, .p .mv, [.v 6], none⟩,
    ⟨.l 31, .p (.bin .sub), [.l 29, .l 30], none⟩,
    ⟨.l 32, .p (.slc 0 false true false), [.l 27, .l 31], none⟩,
    ⟨.v 0, .p .mv, [.l 32], none⟩]))))))
def c71_L0 : C := .loop [4, 5, 6, 9, 17, 26] c71_B0
def c71 : F := ⟨2, [.t 4],
  (.seq
  (.reg [⟨.v 4, .p .mv, [.k (.m (.s []))], none⟩])
  (.seq
  (.blk 0
  c71_L0)
  (.seq
  (.reg [⟨.l 33, .p .mv, [.v 0], none⟩,
    ⟨.v 4, .p .mv, [.l 33], none⟩])
  .ret)))⟩

/- strings.explode -/
def c72_B0 : C :=
  (.seq
  (.seq
  (.reg [⟨.l 22, .p .mv, [.v 7], none⟩,
    ⟨.l 23, .p .mv, [.v 1], none⟩,
    ⟨.l 24, .p (.bin .sub), [.l 23, .k (.m (.i .i64 1))], none⟩,
    ⟨.v 25, .p (.bin .lss), [.l 22, .l 24], none⟩])
  (.ite (.v 25)
    .skip
    (.ex 0)))
  (.seq
  (.blk 1
  (.seq
  (.reg [⟨.l 29, .p .mv, [.v 0], none⟩,
    ⟨.l 30, .l (.cal 98), [.l 29], none⟩,
    ⟨.l 28, .p .mv, [.l 30], none⟩,
    ⟨.l 31, .p (.ext 0), [.l 28], none⟩,
    ⟨.l 32, .p (.ext 1), [.l 28], none⟩,
    ⟨.l 8, .p .mv, [.l 31], none⟩,
    ⟨.v 9, .p .mv, [.l 32], none⟩])
  (.seq
  (.reg [⟨.l 33, .p .mv, [.v 6], none⟩,
    ⟨.l 34, .p .mv, [.v 7], none⟩,
    ⟨.l 35, .p .mv, [.v 0], none⟩,
    ⟨.l 36, .p .mv, [.v 9], none⟩,
    ⟨.l 37, .p (.slc 0 false true false), [.l 35, .l 36], none⟩,
    ⟨.l 38, .p (.ixa 1), [.l 33, .l 34], none⟩,
    ⟨.no, .l (.st 1), [.l 38, .l 37], none⟩])
  (.reg [⟨.l 39, .p .mv, [.v 0], none⟩,
    ⟨.l 40, .p .mv, [.v 9], none⟩,
    ⟨.l 41, .p (.slc 0 true false false), [.l 39, .l 40], none⟩,
    ⟨.v 0, .p .mv, [.l 41], none⟩]))))
  (.reg [⟨.l 26, .p .mv, [.v 7], none⟩,
    ⟨.l 27, .p (.bin .add), [.l 26, .k (.m (.i .i64 1))], none⟩,
    ⟨.v 7, .p .mv, [.l 27], none⟩])))
def c72_L0 : C := .loop [4, 5, 9, 18, 25] c72_B0
def c72 : F := ⟨2, [.t 4],
  (.seq
  (.reg [⟨.v 4, .p .mv, [.k (.m (.nl 4))], none⟩])
  (.seq
  (.reg [⟨.l 10, .p .mv, [.v 0], none⟩,
    ⟨.l 11, .l (.cal 101), [.l 10], none⟩,
    ⟨.v 5, .p .mv, [.l 11], none⟩])
  (.seq
  (.seq
  (.reg [⟨.l 12, .p .mv, [.v 1], none⟩,
    ⟨.l 13, .p (.bin .lss), [.l 12, .k (.m (.i .i64 0))], none⟩,
    ⟨.l 14, .p .mv, [.l 13], none⟩,
    ⟨.l 15, .p .mv, [.v 1], some (.l 14, false)⟩,
    ⟨.l 16, .p .mv, [.v 5], some (.l 14, false)⟩,
    ⟨.l 17, .p (.bin .gtr), [.l 15, .l 16], some (.l 14, false)⟩,
    ⟨.v 18, .p .pick, [.l 14, .k (.m (.b true)), .l 17], none⟩])
  (.ite (.v 18)
    (.reg [⟨.l 19, .p .mv, [.v 5], none⟩,
      ⟨.v 1, .p .mv, [.l 19], none⟩])
    .skip))
  (.seq
  (.reg [⟨.l 20, .p .mv, [.v 1], none⟩,
    ⟨.l 21, .l (.mks 9 1 [.m (.s [])] 16), [.l 20, .l 20], none⟩,
    ⟨.v 6, .p .mv, [.l 21], none⟩])
  (.seq
  (.seq
  (.reg [⟨.v 7, .p .mv, [.k (.m (.i .i64 0))], none⟩])
  (.blk 0
  c72_L0))
  (.seq
  (.seq
  (.reg [⟨.l 42, .p .mv, [.v 1], none⟩,
    ⟨.v 43, .p (.bin .gtr), [.l 42, .k (.m (.i .i64 0))], none⟩])
  (.ite (.v 43)
    (.reg [⟨.l 44, .p .mv, [.v 6], none⟩,
      ⟨.l 45, .p .mv, [.v 1], none⟩,
      ⟨.l 46, .p (.bin .sub), [.l 45, .k (.m (.i .i64 1))], none⟩,
      ⟨.l 47, .p .mv, [.v 0], none⟩,
      ⟨.l 48, .p (.ixa 1), [.l 44, .l 46], none⟩,
      ⟨.no, .l (.st 1), [.l 48, .l 47], none⟩])
    .skip))
  (.seq
  (.reg [⟨.l 49, .p .mv, [.v 6], none⟩,
    ⟨.v 4, .p .mv, [.l 49], none⟩])
  .ret)))))))⟩

/- internal/stringslite.TrimPrefix -/
def c74 : F := ⟨2, [.t 4],
  (.seq
  (.reg [⟨.v 4, .p .mv, [.k (.m (.s []))], none⟩])
  (.seq
  (.seq
  (.reg [⟨.l 5, .p .mv, [.v 0], none⟩,
    ⟨.l 6, .p .mv, [.v 1], none⟩,
    ⟨.v 7, .l (.cal 64), [.l 5, .l 6], none⟩])
  (.ite (.v 7)
    (.seq
    (.reg [⟨.l 8, .p .mv, [.v 0], none⟩,
      ⟨.l 9, .p .mv, [.v 1], none⟩,
      ⟨.l 10, .p (.len true), [.l 9], none⟩,
      ⟨.l 11, .p (.slc 0 true false false), [.l 8, .l 10], none⟩,
      ⟨.v 4, .p .mv, [.l 11], none⟩])
    .ret)
    .skip))
  (.seq
  (.reg [⟨.l 12, .p .mv, [.v 0], none⟩,
    ⟨.v 4, .p .mv, [.l 12], none⟩])
  .ret)))⟩

/- slices.insertionSortCmpFunc[cellular/api.Cell] -/
def c77_B0 : C :=
  (.seq
  (.seq
  (.reg [⟨.l 18, .p .mv, [.v 9], none⟩,
    ⟨.l 19, .p .mv, [.v 1], none⟩,
    ⟨.l 20, .p (.bin .gtr), [.l 18, .l 19], none⟩,
    ⟨.l 21, .p .mv, [.l 20], none⟩,
    ⟨.l 22, .p .mv, [.v 3], some (.l 21, true)⟩,
    ⟨.l 23, .p .mv, [.v 0], some (.l 21, true)⟩,
    ⟨.l 24, .p .mv, [.v 9], some (.l 21, true)⟩,
    ⟨.l 25, .p (.ixa 3), [.l 23, .l 24], some (.l 21, true)⟩,
    ⟨.l 26, .r (.ld true 3), [.l 25], some (.l 21, true)⟩,
    ⟨.l 27, .p .mv, [.v 0], some (.l 21, true)⟩,
    ⟨.l 28, .p .mv, [.v 9], some (.l 21, true)⟩,
    ⟨.l 29, .p (.bin .sub), [.l 28, .k (.m (.i .i64 1))], some (.l 21, true)⟩,
    ⟨.l 30, .p (.ixa 3), [.l 27, .l 29], some (.l 21, true)⟩,
    ⟨.l 31, .r (.ld true 3), [.l 30], some (.l 21, true)⟩,
    ⟨.l 32, .l .cav, [.l 22, .l 26, .l 31], some (.l 21, true)⟩,
    ⟨.l 33, .p (.bin .lss), [.l 32, .k (.m (.i .i64 0))], some (.l 21, true)⟩,
    ⟨.v 34, .p .pick, [.l 21, .l 33, .k (.m (.b false))], none⟩])
  (.ite (.v 34)
    .skip
    (.ex 2)))
  (.seq
  (.blk 3
  (.reg [⟨.l 37, .p .mv, [.v 0], none⟩,
    ⟨.l 38, .p .mv, [.v 9], none⟩,
    ⟨.l 39, .p .mv, [.v 0], none⟩,
    ⟨.l 40, .p .mv, [.v 9], none⟩,
    ⟨.l 41, .p (.bin .sub), [.l 40, .k (.m (.i .i64 1))], none⟩,
    ⟨.l 42, .p .mv, [.v 0], none⟩,
    ⟨.l 43, .p .mv, [.v 9], none⟩,
    ⟨.l 44, .p (.bin .sub), [.l 43, .k (.m (.i .i64 1))], none⟩,
    ⟨.l 45, .p (.ixa 3), [.l 42, .l 44], none⟩,
    ⟨.l 46, .r (.ld true 3), [.l 45], none⟩,
    ⟨.l 47, .p .mv, [.v 0], none⟩,
    ⟨.l 48, .p .mv, [.v 9], none⟩,
    ⟨.l 49, .p (.ixa 3), [.l 47, .l 48], none⟩,
    ⟨.l 50, .r (.ld true 3), [.l 49], none⟩,
    ⟨.l 51, .p (.ixa 3), [.l 37, .l 38], none⟩,
    ⟨.no, .l (.st 3), [.l 51, .l 46], none⟩,
    ⟨.l 52, .p (.ixa 3), [.l 39, .l 41], none⟩,
    ⟨.no, .l (.st 3), [.l 52, .l 50], none⟩]))
  (.reg [⟨.l 35, .p .mv, [.v 9], none⟩,
    ⟨.l 36, .p (.bin .sub), [.l 35, .k (.m (.i .i64 1))], none⟩,
    ⟨.v 9, .p .mv, [.l 36], none⟩])))
def c77_L0 : C := .loop [14, 34] c77_B0
def c77_B1 : C :=
  (.seq
  (.seq
  (.reg [⟨.l 12, .p .mv, [.v 8], none⟩,
    ⟨.l 13, .p .mv, [.v 2], none⟩,
    ⟨.v 14, .p (.bin .lss), [.l 12, .l 13], none⟩])
  (.ite (.v 14)
    .skip
    (.ex 0)))
  (.seq
  (.blk 1
  (.seq
  (.reg [⟨.l 17, .p .mv, [.v 8], none⟩,
    ⟨.v 9, .p .mv, [.l 17], none⟩])
  (.blk 2
  c77_L0)))
  (.reg [⟨.l 15, .p .mv, [.v 8], none⟩,
    ⟨.l 16, .p (.bin .add), [.l 15, .k (.m (.i .i64 1))], none⟩,
    ⟨.v 8, .p .mv, [.l 16], none⟩])))
def c77_L1 : C := .loop [9, 34] c77_B1
def c77 : F := ⟨4, [],
  (.seq
  (.reg [⟨.l 10, .p .mv, [.v 1], none⟩,
    ⟨.l 11, .p (.bin .add), [.l 10, .k (.m (.i .i64 1))], none⟩,
    ⟨.v 8, .p .mv, [.l 11], none⟩])
  (.blk 0
  c77_L1))⟩

/- slices.heapSortCmpFunc[cellular/api.Cell] -/
def c78_B0 : C :=
  (.seq
  (.seq
  (.reg [⟨.l 20, .p .mv, [.v 11], none⟩,
    ⟨.v 21, .p (.bin .geq), [.l 20, .k (.m (.i .i64 0))], none⟩])
  (.ite (.v 21)
    .skip
    (.ex 0)))
  (.seq
  (.blk 1
  (.reg [⟨.l 24, .p .mv, [.v 0], none⟩,
    ⟨.l 25, .p .mv, [.v 11], none⟩,
    ⟨.l 26, .p .mv, [.v 10], none⟩,
    ⟨.l 27, .p .mv, [.v 8], none⟩,
    ⟨.l 28, .p .mv, [.v 3], none⟩,
    ⟨.l 29, .l (.cal 108), [.l 24, .l 25, .l 26, .l 27, .l 28], none⟩]))
  (.reg [⟨.l 22, .p .mv, [.v 11], none⟩,
    ⟨.l 23, .p (.bin .sub), [.l 22, .k (.m (.i .i64 1))], none⟩,
    ⟨.v 11, .p .mv, [.l 23], none⟩])))
def c78_L0 : C := .loop [1, 2, 21] c78_B0
def c78_B1 : C :=
  (.seq
  (.seq
  (.reg [⟨.l 32, .p .mv, [.v 12], none⟩,
    ⟨.v 33, .p (.bin .geq), [.l 32, .k (.m (.i .i64 0))], none⟩])
  (.ite (.v 33)
    .skip
    (.ex 2)))
  (.seq
  (.blk 3
  (.seq
  (.reg [⟨.l 36, .p .mv, [.v 0], none⟩,
    ⟨.l 37, .p .mv, [.v 8], none⟩,
    ⟨.l 38, .p .mv, [.v 0], none⟩,
    ⟨.l 39, .p .mv, [.v 8], none⟩,
    ⟨.l 40, .p .mv, [.v 12], none⟩,
    ⟨.l 41, .p (.bin .add), [.l 39, .l 40], none⟩,
    ⟨.l 42, .p .mv, [.v 0], none⟩,
    ⟨.l 43, .p .mv, [.v 8], none⟩,
    ⟨.l 44, .p .mv, [.v 12], none⟩,
    ⟨.l 45, .p (.bin .add), [.l 43, .l 44], none⟩,
    ⟨.l 46, .p (.ixa 3), [.l 42, .l 45], none⟩,
    ⟨.l 47, .r (.ld true 3), [.l 46], none⟩,
    ⟨.l 48, .p .mv, [.v 0], none⟩,
    ⟨.l 49, .p .mv, [.v 8], none⟩,
    ⟨.l 50, .p (.ixa 3), [.l 48, .l 49], none⟩,
    ⟨.l 51, .r (.ld true 3), [.l 50], none⟩,
    ⟨.l 52, .p (.ixa 3), [.l 36, .l 37], none⟩,
    ⟨.no, .l (.st 3), [.l 52, .l 47], none⟩,
    ⟨.l 53, .p (.ixa 3), [.l 38, .l 41], none⟩,
    ⟨.no, .l (.st 3), [.l 53, .l 51], none⟩])
  (.reg [⟨.l 54, .p .mv, [.v 0], none⟩,
    ⟨.l 55, .p .mv, [.v 9], none⟩,
    ⟨.l 56, .p .mv, [.v 12], none⟩,
    ⟨.l 57, .p .mv, [.v 8], none⟩,
    ⟨.l 58, .p .mv, [.v 3], none⟩,
    ⟨.l 59, .l (.cal 108), [.l 54, .l 55, .l 56, .l 57, .l 58], none⟩])))
  (.reg [⟨.l 34, .p .mv, [.v 12], none⟩,
    ⟨.l 35, .p (.bin .sub), [.l 34, .k (.m (.i .i64 1))], none⟩,
    ⟨.v 12, .p .mv, [.l 35], none⟩])))
def c78_L1 : C := .loop [10, 11, 21, 33] c78_B1
def c78 : F := ⟨4, [],
  (.seq
  (.reg [⟨.l 13, .p .mv, [.v 1], none⟩,
    ⟨.v 8, .p .mv, [.l 13], none⟩])
  (.seq
  (.reg [⟨.v 9, .p .mv, [.k (.m (.i .i64 0))], none⟩])
  (.seq
  (.reg [⟨.l 14, .p .mv, [.v 2], none⟩,
    ⟨.l 15, .p .mv, [.v 1], none⟩,
    ⟨.l 16, .p (.bin .sub), [.l 14, .l 15], none⟩,
    ⟨.v 10, .p .mv, [.l 16], none⟩])
  (.seq
  (.seq
  (.reg [⟨.l 17, .p .mv, [.v 10], none⟩,
    ⟨.l 18, .p (.bin .sub), [.l 17, .k (.m (.i .i64 1))], none⟩,
    ⟨.l 19, .p (.bin .quo), [.l 18, .k (.m (.i .i64 2))], none⟩,
    ⟨.v 11, .p .mv, [.l 19], none⟩])
  (.blk 0
  c78_L0))
  (.seq
  (.reg [⟨.l 30, .p .mv, [.v 10], none⟩,
    ⟨.l 31, .p (.bin .sub), [.l 30, .k (.m (.i .i64 1))], none⟩,
    ⟨.v 12, .p .mv, [.l 31], none⟩])
  (.blk 2
  c78_L1))))))⟩

/- slices.breakPatternsCmpFunc[cellular/api.Cell] -/
def c79_B0 : C :=
  (.seq
  (.seq
  (.reg [⟨.l 28, .p .mv, [.v 11], none⟩,
    ⟨.l 29, .p .mv, [.v 1], none⟩,
    ⟨.l 30, .p .mv, [.v 8], none⟩,
    ⟨.l 31, .p (.bin .quo), [.l 30, .k (.m (.i .i64 4))], none⟩,
    ⟨.l 32, .p (.bin .mul), [.l 31, .k (.m (.i .i64 2))], none⟩,
    ⟨.l 33, .p (.bin .add), [.l 29, .l 32], none⟩,
    ⟨.l 34, .p (.bin .add), [.l 33, .k (.m (.i .i64 1))], none⟩,
    ⟨.v 35, .p (.bin .leq), [.l 28, .l 34], none⟩])
  (.ite (.v 35)
    .skip
    (.ex 0)))
  (.seq
  (.blk 1
  (.seq
  (.reg [⟨.l 38, .l (.cal 110), [.v 9], none⟩,
    ⟨.l 39, .p .mv, [.v 10], none⟩,
    ⟨.l 40, .p (.bin .sub), [.l 39, .k (.m (.i .u64 1))], none⟩,
    ⟨.l 41, .p (.bin .and), [.l 38, .l 40], none⟩,
    ⟨.l 42, .p (.cv .i64), [.l 41], none⟩,
    ⟨.v 12, .p .mv, [.l 42], none⟩])
  (.seq
  (.seq
  (.reg [⟨.l 43, .p .mv, [.v 12], none⟩,
    ⟨.l 44, .p .mv, [.v 8], none⟩,
    ⟨.v 45, .p (.bin .geq), [.l 43, .l 44], none⟩])
  (.ite (.v 45)
    (.reg [⟨.l 46, .p .mv, [.v 12], none⟩,
      ⟨.l 47, .p .mv, [.v 8], none⟩,
      ⟨.l 48, .p (.bin .sub), [.l 46, .l 47], none⟩,
      ⟨.v 12, .p .mv, [.l 48], none⟩])
    .skip))
  (.reg [⟨.l 49, .p .mv, [.v 0], none⟩,
    ⟨.l 50, .p .mv, [.v 11], none⟩,
    ⟨.l 51, .p .mv, [.v 0], none⟩,
    ⟨.l 52, .p .mv, [.v 1], none⟩,
    ⟨.l 53, .p .mv, [.v 12], none⟩,
    ⟨.l 54, .p (.bin .add), [.l 52, .l 53], none⟩,
    ⟨.l 55, .p .mv, [.v 0], none⟩,
    ⟨.l 56, .p .mv, [.v 1], none⟩,
    ⟨.l 57, .p .mv, [.v 12], none⟩,
    ⟨.l 58, .p (.bin .add), [.l 56, .l 57], none⟩,
    ⟨.l 59, .p (.ixa 3), [.l 55, .l 58], none⟩,
    ⟨.l 60, .r (.ld true 3), [.l 59], none⟩,
    ⟨.l 61, .p .mv, [.v 0], none⟩,
    ⟨.l 62, .p .mv, [.v 11], none⟩,
    ⟨.l 63, .p (.ixa 3), [.l 61, .l 62], none⟩,
    ⟨.l 64, .r (.ld true 3), [.l 63], none⟩,
    ⟨.l 65, .p (.ixa 3), [.l 49, .l 50], none⟩,
    ⟨.no, .l (.st 3), [.l 65, .l 60], none⟩,
    ⟨.l 66, .p (.ixa 3), [.l 51, .l 54], none⟩,
    ⟨.no, .l (.st 3), [.l 66, .l 64], none⟩]))))
  (.reg [⟨.l 36, .p .mv, [.v 11], none⟩,
    ⟨.l 37, .p (.bin .add), [.l 36, .k (.m (.i .i64 1))], none⟩,
    ⟨.v 11, .p .mv, [.l 37], none⟩])))
def c79_L0 : C := .loop [2, 3, 12, 17, 35, 45] c79_B0
def c79 : F := ⟨4, [],
  (.seq
  (.reg [⟨.l 13, .p .mv, [.v 2], none⟩,
    ⟨.l 14, .p .mv, [.v 1], none⟩,
    ⟨.l 15, .p (.bin .sub), [.l 13, .l 14], none⟩,
    ⟨.v 8, .p .mv, [.l 15], none⟩])
  (.seq
  (.reg [⟨.l 16, .p .mv, [.v 8], none⟩,
    ⟨.v 17, .p (.bin .geq), [.l 16, .k (.m (.i .i64 8))], none⟩])
  (.ite (.v 17)
    (.seq
    (.reg [⟨.l 18, .p .mv, [.v 8], none⟩,
      ⟨.l 19, .p (.cv .u64), [.l 18], none⟩,
      ⟨.v 9, .l (.als 132 1 1 [.m (.i .u64 0)]), [], none⟩,
      ⟨.no, .l (.st 1), [.v 9, .l 19], none⟩])
    (.seq
    (.reg [⟨.l 20, .p .mv, [.v 8], none⟩,
      ⟨.l 21, .l (.cal 109), [.l 20], none⟩,
      ⟨.v 10, .p .mv, [.l 21], none⟩])
    (.seq
    (.reg [⟨.l 22, .p .mv, [.v 1], none⟩,
      ⟨.l 23, .p .mv, [.v 8], none⟩,
      ⟨.l 24, .p (.bin .quo), [.l 23, .k (.m (.i .i64 4))], none⟩,
      ⟨.l 25, .p (.bin .mul), [.l 24, .k (.m (.i .i64 2))], none⟩,
      ⟨.l 26, .p (.bin .add), [.l 22, .l 25], none⟩,
      ⟨.l 27, .p (.bin .sub), [.l 26, .k (.m (.i .i64 1))], none⟩,
      ⟨.v 11, .p .mv, [.l 27], none⟩])
    (.blk 0
    c79_L0))))
    .skip)))⟩

/- slices.choosePivotCmpFunc[cellular/api.Cell] -/
def c80 : F := ⟨4, [.t 8, .t 9],
  (.seq
  (.reg [⟨.v 8, .p .mv, [.k (.m (.i .i64 0))], none⟩,
    ⟨.v 9, .p .mv, [.k (.m (.i .i64 0))], none⟩])
  (.seq
  (.reg [⟨.l 15, .p .mv, [.v 2], none⟩,
    ⟨.l 16, .p .mv, [.v 1], none⟩,
    ⟨.l 17, .p (.bin .sub), [.l 15, .l 16], none⟩,
    ⟨.v 10, .p .mv, [.l 17], none⟩])
  (.seq
  (.reg [⟨.v 11, .l (.als 3 1 1 [.m (.i .i64 0)]), [], none⟩])
  (.seq
  (.reg [⟨.l 18, .p .mv, [.v 1], none⟩,
    ⟨.l 19, .p .mv, [.v 10], none⟩,
    ⟨.l 20, .p (.bin .quo), [.l 19, .k (.m (.i .i64 4))], none⟩,
    ⟨.l 21, .p (.bin .mul), [.l 20, .k (.m (.i .i64 1))], none⟩,
    ⟨.l 22, .p (.bin .add), [.l 18, .l 21], none⟩,
    ⟨.v 12, .p .mv, [.l 22], none⟩])
  (.seq
  (.reg [⟨.l 23, .p .mv, [.v 1], none⟩,
    ⟨.l 24, .p .mv, [.v 10], none⟩,
    ⟨.l 25, .p (.bin .quo), [.l 24, .k (.m (.i .i64 4))], none⟩,
    ⟨.l 26, .p (.bin .mul), [.l 25, .k (.m (.i .i64 2))], none⟩,
    ⟨.l 27, .p (.bin .add), [.l 23, .l 26], none⟩,
    ⟨.v 13, .p .mv, [.l 27], none⟩])
  (.seq
  (.reg [⟨.l 28, .p .mv, [.v 1], none⟩,
    ⟨.l 29, .p .mv, [.v 10], none⟩,
    ⟨.l 30, .p (.bin .quo), [.l 29, .k (.m (.i .i64 4))], none⟩,
    ⟨.l 31, .p (.bin .mul), [.l 30, .k (.m (.i .i64 3))], none⟩,
    ⟨.l 32, .p (.bin .add), [.l 28, .l 31], none⟩,
    ⟨.v 14, .p .mv, [.l 32], none⟩])
  (.seq
  (.seq
  (.reg [⟨.l 33, .p .mv, [.v 10], none⟩,
    ⟨.v 34, .p (.bin .geq), [.l 33, .k (.m (.i .i64 8))], none⟩])
  (.ite (.v 34)
    (.seq
    (.seq
    (.reg [⟨.l 35, .p .mv, [.v 10], none⟩,
      ⟨.v 36, .p (.bin .geq), [.l 35, .k (.m (.i .i64 50))], none⟩])
    (.ite (.v 36)
      (.seq
      (.reg [⟨.l 37, .p .mv, [.v 0], none⟩,
        ⟨.l 38, .p .mv, [.v 12], none⟩,
        ⟨.l 39, .p .mv, [.v 3], none⟩,
        ⟨.l 40, .l (.cal 111), [.l 37, .l 38, .v 11, .l 39], none⟩,
        ⟨.v 12, .p .mv, [.l 40], none⟩])
      (.seq
      (.reg [⟨.l 41, .p .mv, [.v 0], none⟩,
        ⟨.l 42, .p .mv, [.v 13], none⟩,
        ⟨.l 43, .p .mv, [.v 3], none⟩,
        ⟨.l 44, .l (.cal 111), [.l 41, .l 42, .v 11, .l 43], none⟩,
        ⟨.v 13, .p .mv, [.l 44], none⟩])
      (.reg [⟨.l 45, .p .mv, [.v 0], none⟩,
        ⟨.l 46, .p .mv, [.v 14], none⟩,
        ⟨.l 47, .p .mv, [.v 3], none⟩,
        ⟨.l 48, .l (.cal 111), [.l 45, .l 46, .v 11, .l 47], none⟩,
        ⟨.v 14, .p .mv, [.l 48], none⟩])))
      .skip))
    (.reg [⟨.l 49, .p .mv, [.v 0], none⟩,
      ⟨.l 50, .p .mv, [.v 12], none⟩,
      ⟨.l 51, .p .mv, [.v 13], none⟩,
      ⟨.l 52, .p .mv, [.v 14], none⟩,
      ⟨.l 53, .p .mv, [.v 3], none⟩,
      ⟨.l 54, .l (.cal 112), [.l 49, .l 50, .l 51, .l 52, .v 11, .l 53], none⟩,
      ⟨.v 13, .p .mv, [.l 54], none⟩]))
    .skip))
  (.seq
  (.reg [⟨.v 55, .r (.ld false 1), [.v 11], none⟩])
  (.blk 0
  (.seq
  (.reg [⟨.l 58, .p (.bin .eql), [.v 55, .k (.m (.i .i64 0))], none⟩,
    ⟨.v 57, .p .mv, [.l 58], none⟩])
  (.ite (.v 57)
    (.seq
    (.reg [⟨.l 59, .p .mv, [.v 13], none⟩,
      ⟨.v 8, .p .mv, [.l 59], none⟩,
      ⟨.v 9, .p .mv, [.k (.m (.i .i64 1))], none⟩])
    .ret)
    (.seq
    (.reg [⟨.l 61, .p (.bin .eql), [.v 55, .k (.m (.i .i64 12))], none⟩,
      ⟨.v 60, .p .mv, [.l 61], none⟩])
    (.ite (.v 60)
      (.seq
      (.reg [⟨.l 62, .p .mv, [.v 13], none⟩,
        ⟨.v 8, .p .mv, [.l 62], none⟩,
        ⟨.v 9, .p .mv, [.k (.m (.i .i64 2))], none⟩])
      .ret)
      (.seq
      (.reg [⟨.l 56, .p .mv, [.v 13], none⟩,
        ⟨.v 8, .p .mv, [.l 56], none⟩,
        ⟨.v 9, .p .mv, [.k (.m (.i .i64 0))], none⟩])
      .ret))))))))))))))⟩

/- slices.reverseRangeCmpFunc[cellular/api.Cell] -/
def c81_B0 : C :=
  (.seq
  (.seq
  (.reg [⟨.l 13, .p .mv, [.v 8], none⟩,
    ⟨.l 14, .p .mv, [.v 9], none⟩,
    ⟨.v 15, .p (.bin .lss), [.l 13, .l 14], none⟩])
  (.ite (.v 15)
    .skip
    (.ex 0)))
  (.blk 1
  (.seq
  (.reg [⟨.l 16, .p .mv, [.v 0], none⟩,
    ⟨.l 17, .p .mv, [.v 8], none⟩,
    ⟨.l 18, .p .mv, [.v 0], none⟩,
    ⟨.l 19, .p .mv, [.v 9], none⟩,
    ⟨.l 20, .p .mv, [.v 0], none⟩,
    ⟨.l 21, .p .mv, [.v 9], none⟩,
    ⟨.l 22, .p (.ixa 3), [.l 20, .l 21], none⟩,
    ⟨.l 23, .r (.ld true 3), [.l 22], none⟩,
    ⟨.l 24, .p .mv, [.v 0], none⟩,
    ⟨.l 25, .p .mv, [.v 8], none⟩,
    ⟨.l 26, .p (.ixa 3), [.l 24, .l 25], none⟩,
    ⟨.l 27, .r (.ld true 3), [.l 26], none⟩,
    ⟨.l 28, .p (.ixa 3), [.l 16, .l 17], none⟩,
    ⟨.no, .l (.st 3), [.l 28, .l 23], none⟩,
    ⟨.l 29, .p (.ixa 3), [.l 18, .l 19], none⟩,
    ⟨.no, .l (.st 3), [.l 29, .l 27], none⟩])
  (.seq
  (.reg [⟨.l 30, .p .mv, [.v 8], none⟩,
    ⟨.l 31, .p (.bin .add), [.l 30, .k (.m (.i .i64 1))], none⟩,
    ⟨.v 8, .p .mv, [.l 31], none⟩])
  (.reg [⟨.l 32, .p .mv, [.v 9], none⟩,
    ⟨.l 33, .p (.bin .sub), [.l 32, .k (.m (.i .i64 1))], none⟩,
    ⟨.v 9, .p .mv, [.l 33], none⟩])))))
def c81_L0 : C := .loop [1, 2, 3, 15] c81_B0
def c81 : F := ⟨4, [],
  (.seq
  (.reg [⟨.l 10, .p .mv, [.v 1], none⟩,
    ⟨.v 8, .p .mv, [.l 10], none⟩])
  (.seq
  (.reg [⟨.l 11, .p .mv, [.v 2], none⟩,
    ⟨.l 12, .p (.bin .sub), [.l 11, .k (.m (.i .i64 1))], none⟩,
    ⟨.v 9, .p .mv, [.l 12], none⟩])
  (.blk 0
  c81_L0)))⟩

/- slices.partialInsertionSortCmpFunc[cellular/api.Cell] -/
def c82_B0 : C :=
  (.seq
  (.seq
  (.reg [⟨.l 19, .p .mv, [.v 9], none⟩,
    ⟨.l 20, .p .mv, [.v 2], none⟩,
    ⟨.l 21, .p (.bin .lss), [.l 19, .l 20], none⟩,
    ⟨.l 22, .p .mv, [.l 21], none⟩,
    ⟨.l 23, .p .mv, [.v 3], some (.l 22, true)⟩,
    ⟨.l 24, .p .mv, [.v 0], some (.l 22, true)⟩,
    ⟨.l 25, .p .mv, [.v 9], some (.l 22, true)⟩,
    ⟨.l 26, .p (.ixa 3), [.l 24, .l 25], some (.l 22, true)⟩,
    ⟨.l 27, .r (.ld true 3), [.l 26], some (.l 22, true)⟩,
    ⟨.l 28, .p .mv, [.v 0], some (.l 22, true)⟩,
    ⟨.l 29, .p .mv, [.v 9], some (.l 22, true)⟩,
    ⟨.l 30, .p (.bin .sub), [.l 29, .k (.m (.i .i64 1))], some (.l 22, true)⟩,
    ⟨.l 31, .p (.ixa 3), [.l 28, .l 30], some (.l 22, true)⟩,
    ⟨.l 32, .r (.ld true 3), [.l 31], some (.l 22, true)⟩,
    ⟨.l 33, .l .cav, [.l 23, .l 27, .l 32], some (.l 22, true)⟩,
    ⟨.l 34, .p (.bin .lss), [.l 33, .k (.m (.i .i64 0))], some (.l 22, true)⟩,
    ⟨.l 35, .p (.un .not), [.l 34], some (.l 22, true)⟩,
    ⟨.v 36, .p .pick, [.l 22, .l 35, .k (.m (.b false))], none⟩])
  (.ite (.v 36)
    .skip
    (.ex 2)))
  (.blk 3
  (.reg [⟨.l 37, .p .mv, [.v 9], none⟩,
    ⟨.l 38, .p (.bin .add), [.l 37, .k (.m (.i .i64 1))], none⟩,
    ⟨.v 9, .p .mv, [.l 38], none⟩])))
def c82_L0 : C := .loop [16, 36] c82_B0
def c82_B1 : C :=
  (.seq
  (.seq
  (.reg [⟨.l 68, .p .mv, [.v 11], none⟩,
    ⟨.v 69, .p (.bin .geq), [.l 68, .k (.m (.i .i64 1))], none⟩])
  (.ite (.v 69)
    .skip
    (.ex 4)))
  (.seq
  (.blk 5
  (.seq
  (.seq
  (.reg [⟨.l 72, .p .mv, [.v 3], none⟩,
    ⟨.l 73, .p .mv, [.v 0], none⟩,
    ⟨.l 74, .p .mv, [.v 11], none⟩,
    ⟨.l 75, .p (.ixa 3), [.l 73, .l 74], none⟩,
    ⟨.l 76, .r (.ld true 3), [.l 75], none⟩,
    ⟨.l 77, .p .mv, [.v 0], none⟩,
    ⟨.l 78, .p .mv, [.v 11], none⟩,
    ⟨.l 79, .p (.bin .sub), [.l 78, .k (.m (.i .i64 1))], none⟩,
    ⟨.l 80, .p (.ixa 3), [.l 77, .l 79], none⟩,
    ⟨.l 81, .r (.ld true 3), [.l 80], none⟩,
    ⟨.l 82, .l .cav, [.l 72, .l 76, .l 81], none⟩,
    ⟨.l 83, .p (.bin .lss), [.l 82, .k (.m (.i .i64 0))], none⟩,
    ⟨.v 84, .p (.un .not), [.l 83], none⟩])
  (.ite (.v 84)
    (.ex 4)
    .skip))
  (.reg [⟨.l 85, .p .mv, [.v 0], none⟩,
    ⟨.l 86, .p .mv, [.v 11], none⟩,
    ⟨.l 87, .p .mv, [.v 0], none⟩,
    ⟨.l 88, .p .mv, [.v 11], none⟩,
    ⟨.l 89, .p (.bin .sub), [.l 88, .k (.m (.i .i64 1))], none⟩,
    ⟨.l 90, .p .mv, [.v 0], none⟩,
    ⟨.l 91, .p .mv, [.v 11], none⟩,
    ⟨.l 92, .p (.bin .sub), [.l 91, .k (.m (.i .i64 1))], none⟩,
    ⟨.l 93, .p (.ixa 3), [.l 90, .l 92], none⟩,
    ⟨.l 94, .r (.ld true 3), [.l 93], none⟩,
    ⟨.l 95, .p .mv, [.v 0], none⟩,
    ⟨.l 96, .p .mv, [.v 11], none⟩,
    ⟨.l 97, .p (.ixa 3), [.l 95, .l 96], none⟩,
    ⟨.l 98, .r (.ld true 3), [.l 97], none⟩,
    ⟨.l 99, .p (.ixa 3), [.l 85, .l 86], none⟩,
    ⟨.no, .l (.st 3), [.l 99, .l 94], none⟩,
    ⟨.l 100, .p (.ixa 3), [.l 87, .l 89], none⟩,
    ⟨.no, .l (.st 3), [.l 100, .l 98], none⟩])))
  (.reg [⟨.l 70, .p .mv, [.v 11], none⟩,
    ⟨.l 71, .p (.bin .sub), [.l 70, .k (.m (.i .i64 1))], none⟩,
    ⟨.v 11, .p .mv, [.l 71], none⟩])))
def c82_L1 : C := .loop [36, 41, 45, 65, 69, 84] c82_B1
def c82_B2 : C :=
  (.seq
  (.seq
  (.reg [⟨.l 107, .p .mv, [.v 12], none⟩,
    ⟨.l 108, .p .mv, [.v 2], none⟩,
    ⟨.v 109, .p (.bin .lss), [.l 107, .l 108], none⟩])
  (.ite (.v 109)
    .skip
    (.ex 6)))
  (.seq
  (.blk 7
  (.seq
  (.seq
  (.reg [⟨.l 112, .p .mv, [.v 3], none⟩,
    ⟨.l 113, .p .mv, [.v 0], none⟩,
    ⟨.l 114, .p .mv, [.v 12], none⟩,
    ⟨.l 115, .p (.ixa 3), [.l 113, .l 114], none⟩,
    ⟨.l 116, .r (.ld true 3), [.l 115], none⟩,
    ⟨.l 117, .p .mv, [.v 0], none⟩,
    ⟨.l 118, .p .mv, [.v 12], none⟩,
    ⟨.l 119, .p (.bin .sub), [.l 118, .k (.m (.i .i64 1))], none⟩,
    ⟨.l 120, .p (.ixa 3), [.l 117, .l 119], none⟩,
    ⟨.l 121, .r (.ld true 3), [.l 120], none⟩,
    ⟨.l 122, .l .cav, [.l 112, .l 116, .l 121], none⟩,
    ⟨.l 123, .p (.bin .lss), [.l 122, .k (.m (.i .i64 0))], none⟩,
    ⟨.v 124, .p (.un .not), [.l 123], none⟩])
  (.ite (.v 124)
    (.ex 6)
    .skip))
  (.reg [⟨.l 125, .p .mv, [.v 0], none⟩,
    ⟨.l 126, .p .mv, [.v 12], none⟩,
    ⟨.l 127, .p .mv, [.v 0], none⟩,
    ⟨.l 128, .p .mv, [.v 12], none⟩,
    ⟨.l 129, .p (.bin .sub), [.l 128, .k (.m (.i .i64 1))], none⟩,
    ⟨.l 130, .p .mv, [.v 0], none⟩,
    ⟨.l 131, .p .mv, [.v 12], none⟩,
    ⟨.l 132, .p (.bin .sub), [.l 131, .k (.m (.i .i64 1))], none⟩,
    ⟨.l 133, .p (.ixa 3), [.l 130, .l 132], none⟩,
    ⟨.l 134, .r (.ld true 3), [.l 133], none⟩,
    ⟨.l 135, .p .mv, [.v 0], none⟩,
    ⟨.l 136, .p .mv, [.v 12], none⟩,
    ⟨.l 137, .p (.ixa 3), [.l 135, .l 136], none⟩,
    ⟨.l 138, .r (.ld true 3), [.l 137], none⟩,
    ⟨.l 139, .p (.ixa 3), [.l 125, .l 126], none⟩,
    ⟨.no, .l (.st 3), [.l 139, .l 134], none⟩,
    ⟨.l 140, .p (.ixa 3), [.l 127, .l 129], none⟩,
    ⟨.no, .l (.st 3), [.l 140, .l 138], none⟩])))
  (.reg [⟨.l 110, .p .mv, [.v 12], none⟩,
    ⟨.l 111, .p (.bin .add), [.l 110, .k (.m (.i .i64 1))], none⟩,
    ⟨.v 12, .p .mv, [.l 111], none⟩])))
def c82_L2 : C := .loop [11, 36, 41, 45, 65, 69, 84, 104, 109, 124] c82_B2
def c82_B3 : C :=
  (.seq
  (.seq
  (.reg [⟨.l 15, .p .mv, [.v 10], none⟩,
    ⟨.v 16, .p (.bin .lss), [.l 15, .k (.m (.i .i64 5))], none⟩])
  (.ite (.v 16)
    .skip
    (.ex 0)))
  (.seq
  (.blk 1
  (.seq
  (.blk 2
  c82_L0)
  (.seq
  (.seq
  (.reg [⟨.l 39, .p .mv, [.v 9], none⟩,
    ⟨.l 40, .p .mv, [.v 2], none⟩,
    ⟨.v 41, .p (.bin .eql), [.l 39, .l 40], none⟩])
  (.ite (.v 41)
    (.seq
    (.reg [⟨.v 8, .p .mv, [.k (.m (.b true))], none⟩])
    .ret)
    .skip))
  (.seq
  (.seq
  (.reg [⟨.l 42, .p .mv, [.v 2], none⟩,
    ⟨.l 43, .p .mv, [.v 1], none⟩,
    ⟨.l 44, .p (.bin .sub), [.l 42, .l 43], none⟩,
    ⟨.v 45, .p (.bin .lss), [.l 44, .k (.m (.i .i64 50))], none⟩])
  (.ite (.v 45)
    (.seq
    (.reg [⟨.v 8, .p .mv, [.k (.m (.b false))], none⟩])
    .ret)
    .skip))
  (.seq
  (.reg [⟨.l 46, .p .mv, [.v 0], none⟩,
    ⟨.l 47, .p .mv, [.v 9], none⟩,
    ⟨.l 48, .p .mv, [.v 0], none⟩,
    ⟨.l 49, .p .mv, [.v 9], none⟩,
    ⟨.l 50, .p (.bin .sub), [.l 49, .k (.m (.i .i64 1))], none⟩,
    ⟨.l 51, .p .mv, [.v 0], none⟩,
    ⟨.l 52, .p .mv, [.v 9], none⟩,
    ⟨.l 53, .p (.bin .sub), [.l 52, .k (.m (.i .i64 1))], none⟩,
    ⟨.l 54, .p (.ixa 3), [.l 51, .l 53], none⟩,
    ⟨.l 55, .r (.ld true 3), [.l 54], none⟩,
    ⟨.l 56, .p .mv, [.v 0], none⟩,
    ⟨.l 57, .p .mv, [.v 9], none⟩,
    ⟨.l 58, .p (.ixa 3), [.l 56, .l 57], none⟩,
    ⟨.l 59, .r (.ld true 3), [.l 58], none⟩,
    ⟨.l 60, .p (.ixa 3), [.l 46, .l 47], none⟩,
    ⟨.no, .l (.st 3), [.l 60, .l 55], none⟩,
    ⟨.l 61, .p (.ixa 3), [.l 48, .l 50], none⟩,
    ⟨.no, .l (.st 3), [.l 61, .l 59], none⟩])
  (.seq
  (.seq
  (.reg [⟨.l 62, .p .mv, [.v 9], none⟩,
    ⟨.l 63, .p .mv, [.v 1], none⟩,
    ⟨.l 64, .p (.bin .sub), [.l 62, .l 63], none⟩,
    ⟨.v 65, .p (.bin .geq), [.l 64, .k (.m (.i .i64 2))], none⟩])
  (.ite (.v 65)
    (.seq
    (.reg [⟨.l 66, .p .mv, [.v 9], none⟩,
      ⟨.l 67, .p (.bin .sub), [.l 66, .k (.m (.i .i64 1))], none⟩,
      ⟨.v 11, .p .mv, [.l 67], none⟩])
    (.blk 4
    c82_L1))
    .skip))
  (.seq
  (.reg [⟨.l 101, .p .mv, [.v 2], none⟩,
    ⟨.l 102, .p .mv, [.v 9], none⟩,
    ⟨.l 103, .p (.bin .sub), [.l 101, .l 102], none⟩,
    ⟨.v 104, .p (.bin .geq), [.l 103, .k (.m (.i .i64 2))], none⟩])
  (.ite (.v 104)
    (.seq
    (.reg [⟨.l 105, .p .mv, [.v 9], none⟩,
      ⟨.l 106, .p (.bin .add), [.l 105, .k (.m (.i .i64 1))], none⟩,
      ⟨.v 12, .p .mv, [.l 106], none⟩])
    (.blk 6
    c82_L2))
    .skip))))))))
  (.reg [⟨.l 17, .p .mv, [.v 10], none⟩,
    ⟨.l 18, .p (.bin .add), [.l 17, .k (.m (.i .i64 1))], none⟩,
    ⟨.v 10, .p .mv, [.l 18], none⟩])))
def c82_L3 : C := .loop [8, 11, 12, 36, 41, 45, 65, 69, 84, 104, 109, 124] c82_B3
def c82 : F := ⟨4, [.t 8],
  (.seq
  (.reg [⟨.v 8, .p .mv, [.k (.m (.b false))], none⟩])
  (.seq
  (.reg [⟨.l 13, .p .mv, [.v 1], none⟩,
    ⟨.l 14, .p (.bin .add), [.l 13, .k (.m (.i .i64 1))], none⟩,
    ⟨.v 9, .p .mv, [.l 14], none⟩])
  (.seq
  (.seq
  (.reg [⟨.v 10, .p .mv, [.k (.m (.i .i64 0))], none⟩])
  (.blk 0
  c82_L3))
  (.seq
  (.reg [⟨.v 8, .p .mv, [.k (.m (.b false))], none⟩])
  .ret))))⟩

/- slices.partitionEqualCmpFunc[cellular/api.Cell] -/
def c83_B0 : C :=
  (.seq
  (.seq
  (.reg [⟨.l 31, .p .mv, [.v 11], none⟩,
    ⟨.l 32, .p .mv, [.v 12], none⟩,
    ⟨.l 33, .p (.bin .leq), [.l 31, .l 32], none⟩,
    ⟨.l 34, .p .mv, [.l 33], none⟩,
    ⟨.l 35, .p .mv, [.v 4], some (.l 34, true)⟩,
    ⟨.l 36, .p .mv, [.v 0], some (.l 34, true)⟩,
    ⟨.l 37, .p .mv, [.v 1], some (.l 34, true)⟩,
    ⟨.l 38, .p (.ixa 3), [.l 36, .l 37], some (.l 34, true)⟩,
    ⟨.l 39, .r (.ld true 3), [.l 38], some (.l 34, true)⟩,
    ⟨.l 40, .p .mv, [.v 0], some (.l 34, true)⟩,
    ⟨.l 41, .p .mv, [.v 11], some (.l 34, true)⟩,
    ⟨.l 42, .p (.ixa 3), [.l 40, .l 41], some (.l 34, true)⟩,
    ⟨.l 43, .r (.ld true 3), [.l 42], some (.l 34, true)⟩,
    ⟨.l 44, .l .cav, [.l 35, .l 39, .l 43], some (.l 34, true)⟩,
    ⟨.l 45, .p (.bin .lss), [.l 44, .k (.m (.i .i64 0))], some (.l 34, true)⟩,
    ⟨.l 46, .p (.un .not), [.l 45], some (.l 34, true)⟩,
    ⟨.v 47, .p .pick, [.l 34, .l 46, .k (.m (.b false))], none⟩])
  (.ite (.v 47)
    .skip
    (.ex 2)))
  (.blk 3
  (.reg [⟨.l 48, .p .mv, [.v 11], none⟩,
    ⟨.l 49, .p (.bin .add), [.l 48, .k (.m (.i .i64 1))], none⟩,
    ⟨.v 11, .p .mv, [.l 49], none⟩])))
def c83_L0 : C := .loop [2, 3, 10, 47, 65, 70] c83_B0
def c83_B1 : C :=
  (.seq
  (.seq
  (.reg [⟨.l 50, .p .mv, [.v 11], none⟩,
    ⟨.l 51, .p .mv, [.v 12], none⟩,
    ⟨.l 52, .p (.bin .leq), [.l 50, .l 51], none⟩,
    ⟨.l 53, .p .mv, [.l 52], none⟩,
    ⟨.l 54, .p .mv, [.v 4], some (.l 53, true)⟩,
    ⟨.l 55, .p .mv, [.v 0], some (.l 53, true)⟩,
    ⟨.l 56, .p .mv, [.v 1], some (.l 53, true)⟩,
    ⟨.l 57, .p (.ixa 3), [.l 55, .l 56], some (.l 53, true)⟩,
    ⟨.l 58, .r (.ld true 3), [.l 57], some (.l 53, true)⟩,
    ⟨.l 59, .p .mv, [.v 0], some (.l 53, true)⟩,
    ⟨.l 60, .p .mv, [.v 12], some (.l 53, true)⟩,
    ⟨.l 61, .p (.ixa 3), [.l 59, .l 60], some (.l 53, true)⟩,
    ⟨.l 62, .r (.ld true 3), [.l 61], some (.l 53, true)⟩,
    ⟨.l 63, .l .cav, [.l 54, .l 58, .l 62], some (.l 53, true)⟩,
    ⟨.l 64, .p (.bin .lss), [.l 63, .k (.m (.i .i64 0))], some (.l 53, true)⟩,
    ⟨.v 65, .p .pick, [.l 53, .l 64, .k (.m (.b false))], none⟩])
  (.ite (.v 65)
    .skip
    (.ex 4)))
  (.blk 5
  (.reg [⟨.l 66, .p .mv, [.v 12], none⟩,
    ⟨.l 67, .p (.bin .sub), [.l 66, .k (.m (.i .i64 1))], none⟩,
    ⟨.v 12, .p .mv, [.l 67], none⟩])))
def c83_L1 : C := .loop [47, 65] c83_B1
def c83_B2 : C :=
  (.blk 1
  (.seq
  (.blk 2
  c83_L0)
  (.seq
  (.blk 4
  c83_L1)
  (.seq
  (.seq
  (.reg [⟨.l 68, .p .mv, [.v 11], none⟩,
    ⟨.l 69, .p .mv, [.v 12], none⟩,
    ⟨.v 70, .p (.bin .gtr), [.l 68, .l 69], none⟩])
  (.ite (.v 70)
    (.ex 0)
    .skip))
  (.seq
  (.reg [⟨.l 71, .p .mv, [.v 0], none⟩,
    ⟨.l 72, .p .mv, [.v 11], none⟩,
    ⟨.l 73, .p .mv, [.v 0], none⟩,
    ⟨.l 74, .p .mv, [.v 12], none⟩,
    ⟨.l 75, .p .mv, [.v 0], none⟩,
    ⟨.l 76, .p .mv, [.v 12], none⟩,
    ⟨.l 77, .p (.ixa 3), [.l 75, .l 76], none⟩,
    ⟨.l 78, .r (.ld true 3), [.l 77], none⟩,
    ⟨.l 79, .p .mv, [.v 0], none⟩,
    ⟨.l 80, .p .mv, [.v 11], none⟩,
    ⟨.l 81, .p (.ixa 3), [.l 79, .l 80], none⟩,
    ⟨.l 82, .r (.ld true 3), [.l 81], none⟩,
    ⟨.l 83, .p (.ixa 3), [.l 71, .l 72], none⟩,
    ⟨.no, .l (.st 3), [.l 83, .l 78], none⟩,
    ⟨.l 84, .p (.ixa 3), [.l 73, .l 74], none⟩,
    ⟨.no, .l (.st 3), [.l 84, .l 82], none⟩])
  (.seq
  (.reg [⟨.l 85, .p .mv, [.v 11], none⟩,
    ⟨.l 86, .p (.bin .add), [.l 85, .k (.m (.i .i64 1))], none⟩,
    ⟨.v 11, .p .mv, [.l 86], none⟩])
  (.reg [⟨.l 87, .p .mv, [.v 12], none⟩,
    ⟨.l 88, .p (.bin .sub), [.l 87, .k (.m (.i .i64 1))], none⟩,
    ⟨.v 12, .p .mv, [.l 88], none⟩])))))))
def c83_L2 : C := .loop [2, 3, 10, 47, 65, 70] c83_B2
def c83 : F := ⟨5, [.t 10],
  (.seq
  (.reg [⟨.v 10, .p .mv, [.k (.m (.i .i64 0))], none⟩])
  (.seq
  (.reg [⟨.l 13, .p .mv, [.v 0], none⟩,
    ⟨.l 14, .p .mv, [.v 1], none⟩,
    ⟨.l 15, .p .mv, [.v 0], none⟩,
    ⟨.l 16, .p .mv, [.v 3], none⟩,
    ⟨.l 17, .p .mv, [.v 0], none⟩,
    ⟨.l 18, .p .mv, [.v 3], none⟩,
    ⟨.l 19, .p (.ixa 3), [.l 17, .l 18], none⟩,
    ⟨.l 20, .r (.ld true 3), [.l 19], none⟩,
    ⟨.l 21, .p .mv, [.v 0], none⟩,
    ⟨.l 22, .p .mv, [.v 1], none⟩,
    ⟨.l 23, .p (.ixa 3), [.l 21, .l 22], none⟩,
    ⟨.l 24, .r (.ld true 3), [.l 23], none⟩,
    ⟨.l 25, .p (.ixa 3), [.l 13, .l 14], none⟩,
    ⟨.no, .l (.st 3), [.l 25, .l 20], none⟩,
    ⟨.l 26, .p (.ixa 3), [.l 15, .l 16], none⟩,
    ⟨.no, .l (.st 3), [.l 26, .l 24], none⟩])
  (.seq
  (.reg [⟨.l 27, .p .mv, [.v 1], none⟩,
    ⟨.l 28, .p (.bin .add), [.l 27, .k (.m (.i .i64 1))], none⟩,
    ⟨.l 29, .p .mv, [.v 2], none⟩,
    ⟨.l 30, .p (.bin .sub), [.l 29, .k (.m (.i .i64 1))], none⟩,
    ⟨.v 11, .p .mv, [.l 28], none⟩,
    ⟨.v 12, .p .mv, [.l 30], none⟩])
  (.seq
  (.blk 0
  c83_L2)
  (.seq
  (.reg [⟨.l 89, .p .mv, [.v 11], none⟩,
    ⟨.v 10, .p .mv, [.l 89], none⟩])
  .ret)))))⟩

/- slices.partitionCmpFunc[cellular/api.Cell] -/
def c84_B0 : C :=
  (.seq
  (.seq
  (.reg [⟨.l 32, .p .mv, [.v 12], none⟩,
    ⟨.l 33, .p .mv, [.v 13], none⟩,
    ⟨.l 34, .p (.bin .leq), [.l 32, .l 33], none⟩,
    ⟨.l 35, .p .mv, [.l 34], none⟩,
    ⟨.l 36, .p .mv, [.v 4], some (.l 35, true)⟩,
    ⟨.l 37, .p .mv, [.v 0], some (.l 35, true)⟩,
    ⟨.l 38, .p .mv, [.v 12], some (.l 35, true)⟩,
    ⟨.l 39, .p (.ixa 3), [.l 37, .l 38], some (.l 35, true)⟩,
    ⟨.l 40, .r (.ld true 3), [.l 39], some (.l 35, true)⟩,
    ⟨.l 41, .p .mv, [.v 0], some (.l 35, true)⟩,
    ⟨.l 42, .p .mv, [.v 1], some (.l 35, true)⟩,
    ⟨.l 43, .p (.ixa 3), [.l 41, .l 42], some (.l 35, true)⟩,
    ⟨.l 44, .r (.ld true 3), [.l 43], some (.l 35, true)⟩,
    ⟨.l 45, .l .cav, [.l 36, .l 40, .l 44], some (.l 35, true)⟩,
    ⟨.l 46, .p (.bin .lss), [.l 45, .k (.m (.i .i64 0))], some (.l 35, true)⟩,
    ⟨.v 47, .p .pick, [.l 35, .l 46, .k (.m (.b false))], none⟩])
  (.ite (.v 47)
    .skip
    (.ex 0)))
  (.blk 1
  (.reg [⟨.l 48, .p .mv, [.v 12], none⟩,
    ⟨.l 49, .p (.bin .add), [.l 48, .k (.m (.i .i64 1))], none⟩,
    ⟨.v 12, .p .mv, [.l 49], none⟩])))
def c84_L0 : C := .loop [2, 3, 10, 11, 47] c84_B0
def c84_B1 : C :=
  (.seq
  (.seq
  (.reg [⟨.l 50, .p .mv, [.v 12], none⟩,
    ⟨.l 51, .p .mv, [.v 13], none⟩,
    ⟨.l 52, .p (.bin .leq), [.l 50, .l 51], none⟩,
    ⟨.l 53, .p .mv, [.l 52], none⟩,
    ⟨.l 54, .p .mv, [.v 4], some (.l 53, true)⟩,
    ⟨.l 55, .p .mv, [.v 0], some (.l 53, true)⟩,
    ⟨.l 56, .p .mv, [.v 13], some (.l 53, true)⟩,
    ⟨.l 57, .p (.ixa 3), [.l 55, .l 56], some (.l 53, true)⟩,
    ⟨.l 58, .r (.ld true 3), [.l 57], some (.l 53, true)⟩,
    ⟨.l 59, .p .mv, [.v 0], some (.l 53, true)⟩,
    ⟨.l 60, .p .mv, [.v 1], some (.l 53, true)⟩,
    ⟨.l 61, .p (.ixa 3), [.l 59, .l 60], some (.l 53, true)⟩,
    ⟨.l 62, .r (.ld true 3), [.l 61], some (.l 53, true)⟩,
    ⟨.l 63, .l .cav, [.l 54, .l 58, .l 62], some (.l 53, true)⟩,
    ⟨.l 64, .p (.bin .lss), [.l 63, .k (.m (.i .i64 0))], some (.l 53, true)⟩,
    ⟨.l 65, .p (.un .not), [.l 64], some (.l 53, true)⟩,
    ⟨.v 66, .p .pick, [.l 53, .l 65, .k (.m (.b false))], none⟩])
  (.ite (.v 66)
    .skip
    (.ex 2)))
  (.blk 3
  (.reg [⟨.l 67, .p .mv, [.v 13], none⟩,
    ⟨.l 68, .p (.bin .sub), [.l 67, .k (.m (.i .i64 1))], none⟩,
    ⟨.v 13, .p .mv, [.l 68], none⟩])))
def c84_L1 : C := .loop [47, 66] c84_B1
def c84_B2 : C :=
  (.seq
  (.seq
  (.reg [⟨.l 105, .p .mv, [.v 12], none⟩,
    ⟨.l 106, .p .mv, [.v 13], none⟩,
    ⟨.l 107, .p (.bin .leq), [.l 105, .l 106], none⟩,
    ⟨.l 108, .p .mv, [.l 107], none⟩,
    ⟨.l 109, .p .mv, [.v 4], some (.l 108, true)⟩,
    ⟨.l 110, .p .mv, [.v 0], some (.l 108, true)⟩,
    ⟨.l 111, .p .mv, [.v 12], some (.l 108, true)⟩,
    ⟨.l 112, .p (.ixa 3), [.l 110, .l 111], some (.l 108, true)⟩,
    ⟨.l 113, .r (.ld true 3), [.l 112], some (.l 108, true)⟩,
    ⟨.l 114, .p .mv, [.v 0], some (.l 108, true)⟩,
    ⟨.l 115, .p .mv, [.v 1], some (.l 108, true)⟩,
    ⟨.l 116, .p (.ixa 3), [.l 114, .l 115], some (.l 108, true)⟩,
    ⟨.l 117, .r (.ld true 3), [.l 116], some (.l 108, true)⟩,
    ⟨.l 118, .l .cav, [.l 109, .l 113, .l 117], some (.l 108, true)⟩,
    ⟨.l 119, .p (.bin .lss), [.l 118, .k (.m (.i .i64 0))], some (.l 108, true)⟩,
    ⟨.v 120, .p .pick, [.l 108, .l 119, .k (.m (.b false))], none⟩])
  (.ite (.v 120)
    .skip
    (.ex 6)))
  (.blk 7
  (.reg [⟨.l 121, .p .mv, [.v 12], none⟩,
    ⟨.l 122, .p (.bin .add), [.l 121, .k (.m (.i .i64 1))], none⟩,
    ⟨.v 12, .p .mv, [.l 122], none⟩])))
def c84_L2 : C := .loop [66, 71, 120, 139, 144] c84_B2
def c84_B3 : C :=
  (.seq
  (.seq
  (.reg [⟨.l 123, .p .mv, [.v 12], none⟩,
    ⟨.l 124, .p .mv, [.v 13], none⟩,
    ⟨.l 125, .p (.bin .leq), [.l 123, .l 124], none⟩,
    ⟨.l 126, .p .mv, [.l 125], none⟩,
    ⟨.l 127, .p .mv, [.v 4], some (.l 126, true)⟩,
    ⟨.l 128, .p .mv, [.v 0], some (.l 126, true)⟩,
    ⟨.l 129, .p .mv, [.v 13], some (.l 126, true)⟩,
    ⟨.l 130, .p (.ixa 3), [.l 128, .l 129], some (.l 126, true)⟩,
    ⟨.l 131, .r (.ld true 3), [.l 130], some (.l 126, true)⟩,
    ⟨.l 132, .p .mv, [.v 0], some (.l 126, true)⟩,
    ⟨.l 133, .p .mv, [.v 1], some (.l 126, true)⟩,
    ⟨.l 134, .p (.ixa 3), [.l 132, .l 133], some (.l 126, true)⟩,
    ⟨.l 135, .r (.ld true 3), [.l 134], some (.l 126, true)⟩,
    ⟨.l 136, .l .cav, [.l 127, .l 131, .l 135], some (.l 126, true)⟩,
    ⟨.l 137, .p (.bin .lss), [.l 136, .k (.m (.i .i64 0))], some (.l 126, true)⟩,
    ⟨.l 138, .p (.un .not), [.l 137], some (.l 126, true)⟩,
    ⟨.v 139, .p .pick, [.l 126, .l 138, .k (.m (.b false))], none⟩])
  (.ite (.v 139)
    .skip
    (.ex 8)))
  (.blk 9
  (.reg [⟨.l 140, .p .mv, [.v 13], none⟩,
    ⟨.l 141, .p (.bin .sub), [.l 140, .k (.m (.i .i64 1))], none⟩,
    ⟨.v 13, .p .mv, [.l 141], none⟩])))
def c84_L3 : C := .loop [120, 139] c84_B3
def c84_B4 : C :=
  (.blk 5
  (.seq
  (.blk 6
  c84_L2)
  (.seq
  (.blk 8
  c84_L3)
  (.seq
  (.seq
  (.reg [⟨.l 142, .p .mv, [.v 12], none⟩,
    ⟨.l 143, .p .mv, [.v 13], none⟩,
    ⟨.v 144, .p (.bin .gtr), [.l 142, .l 143], none⟩])
  (.ite (.v 144)
    (.ex 4)
    .skip))
  (.seq
  (.reg [⟨.l 145, .p .mv, [.v 0], none⟩,
    ⟨.l 146, .p .mv, [.v 12], none⟩,
    ⟨.l 147, .p .mv, [.v 0], none⟩,
    ⟨.l 148, .p .mv, [.v 13], none⟩,
    ⟨.l 149, .p .mv, [.v 0], none⟩,
    ⟨.l 150, .p .mv, [.v 13], none⟩,
    ⟨.l 151, .p (.ixa 3), [.l 149, .l 150], none⟩,
    ⟨.l 152, .r (.ld true 3), [.l 151], none⟩,
    ⟨.l 153, .p .mv, [.v 0], none⟩,
    ⟨.l 154, .p .mv, [.v 12], none⟩,
    ⟨.l 155, .p (.ixa 3), [.l 153, .l 154], none⟩,
    ⟨.l 156, .r (.ld true 3), [.l 155], none⟩,
    ⟨.l 157, .p (.ixa 3), [.l 145, .l 146], none⟩,
    ⟨.no, .l (.st 3), [.l 157, .l 152], none⟩,
    ⟨.l 158, .p (.ixa 3), [.l 147, .l 148], none⟩,
    ⟨.no, .l (.st 3), [.l 158, .l 156], none⟩])
  (.seq
  (.reg [⟨.l 159, .p .mv, [.v 12], none⟩,
    ⟨.l 160, .p (.bin .add), [.l 159, .k (.m (.i .i64 1))], none⟩,
    ⟨.v 12, .p .mv, [.l 160], none⟩])
  (.reg [⟨.l 161, .p .mv, [.v 13], none⟩,
    ⟨.l 162, .p (.bin .sub), [.l 161, .k (.m (.i .i64 1))], none⟩,
    ⟨.v 13, .p .mv, [.l 162], none⟩])))))))
def c84_L4 : C := .loop [66, 71, 120, 139, 144] c84_B4
def c84 : F := ⟨5, [.t 10, .t 11],
  (.seq
  (.reg [⟨.v 10, .p .mv, [.k (.m (.i .i64 0))], none⟩,
    ⟨.v 11, .p .mv, [.k (.m (.b false))], none⟩])
  (.seq
  (.reg [⟨.l 14, .p .mv, [.v 0], none⟩,
    ⟨.l 15, .p .mv, [.v 1], none⟩,
    ⟨.l 16, .p .mv, [.v 0], none⟩,
    ⟨.l 17, .p .mv, [.v 3], none⟩,
    ⟨.l 18, .p .mv, [.v 0], none⟩,
    ⟨.l 19, .p .mv, [.v 3], none⟩,
    ⟨.l 20, .p (.ixa 3), [.l 18, .l 19], none⟩,
    ⟨.l 21, .r (.ld true 3), [.l 20], none⟩,
    ⟨.l 22, .p .mv, [.v 0], none⟩,
    ⟨.l 23, .p .mv, [.v 1], none⟩,
    ⟨.l 24, .p (.ixa 3), [.l 22, .l 23], none⟩,
    ⟨.l 25, .r (.ld true 3), [.l 24], none⟩,
    ⟨.l 26, .p (.ixa 3), [.l 14, .l 15], none⟩,
    ⟨.no, .l (.st 3), [.l 26, .l 21], none⟩,
    ⟨.l 27, .p (.ixa 3), [.l 16, .l 17], none⟩,
    ⟨.no, .l (.st 3), [.l 27, .l 25], none⟩])
  (.seq
  (.reg [⟨.l 28, .p .mv, [.v 1], none⟩,
    ⟨.l 29, .p (.bin .add), [.l 28, .k (.m (.i .i64 1))], none⟩,
    ⟨.l 30, .p .mv, [.v 2], none⟩,
    ⟨.l 31, .p (.bin .sub), [.l 30, .k (.m (.i .i64 1))], none⟩,
    ⟨.v 12, .p .mv, [.l 29], none⟩,
    ⟨.v 13, .p .mv, [.l 31], none⟩])
  (.seq
  (.blk 0
  c84_L0)
  (.seq
  (.blk 2
  c84_L1)
  (.seq
  (.seq
  (.reg [⟨.l 69, .p .mv, [.v 12], none⟩,
    ⟨.l 70, .p .mv, [.v 13], none⟩,
    ⟨.v 71, .p (.bin .gtr), [.l 69, .l 70], none⟩])
  (.ite (.v 71)
    (.seq
    (.reg [⟨.l 72, .p .mv, [.v 0], none⟩,
      ⟨.l 73, .p .mv, [.v 13], none⟩,
      ⟨.l 74, .p .mv, [.v 0], none⟩,
      ⟨.l 75, .p .mv, [.v 1], none⟩,
      ⟨.l 76, .p .mv, [.v 0], none⟩,
      ⟨.l 77, .p .mv, [.v 1], none⟩,
      ⟨.l 78, .p (.ixa 3), [.l 76, .l 77], none⟩,
      ⟨.l 79, .r (.ld true 3), [.l 78], none⟩,
      ⟨.l 80, .p .mv, [.v 0], none⟩,
      ⟨.l 81, .p .mv, [.v 13], none⟩,
      ⟨.l 82, .p (.ixa 3), [.l 80, .l 81], none⟩,
      ⟨.l 83, .r (.ld true 3), [.l 82], none⟩,
      ⟨.l 84, .p (.ixa 3), [.l 72, .l 73], none⟩,
      ⟨.no, .l (.st 3), [.l 84, .l 79], none⟩,
      ⟨.l 85, .p (.ixa 3), [.l 74, .l 75], none⟩,
      ⟨.no, .l (.st 3), [.l 85, .l 83], none⟩])
    (.seq
    (.reg [⟨.l 86, .p .mv, [.v 13], none⟩,
      ⟨.v 10, .p .mv, [.l 86], none⟩,
      ⟨.v 11, .p .mv, [.k (.m (.b true))], none⟩])
    .ret))
    .skip))
  (.seq
  (.reg [⟨.l 87, .p .mv, [.v 0], none⟩,
    ⟨.l 88, .p .mv, [.v 12], none⟩,
    ⟨.l 89, .p .mv, [.v 0], none⟩,
    ⟨.l 90, .p .mv, [.v 13], none⟩,
    ⟨.l 91, .p .mv, [.v 0], none⟩,
    ⟨.l 92, .p .mv, [.v 13], none⟩,
    ⟨.l 93, .p (.ixa 3), [.l 91, .l 92], none⟩,
    ⟨.l 94, .r (.ld true 3), [.l 93], none⟩,
    ⟨.l 95, .p .mv, [.v 0], none⟩,
    ⟨.l 96, .p .mv, [.v 12], none⟩,
    ⟨.l 97, .p (.ixa 3), [.l 95, .l 96], none⟩,
    ⟨.l 98, .r (.ld true 3), [.l 97], none⟩,
    ⟨.l 99, .p (.ixa 3), [.l 87, .l 88], none⟩,
    ⟨.no, .l (.st 3), [.l 99, .l 94], none⟩,
    ⟨.l 100, .p (.ixa 3), [.l 89, .l 90], none⟩,
    ⟨.no, .l (.st 3), [.l 100, .l 98], none⟩])
  (.seq
  (.reg [⟨.l 101, .p .mv, [.v 12], none⟩,
    ⟨.l 102, .p (.bin .add), [.l 101, .k (.m (.i .i64 1))], none⟩,
    ⟨.v 12, .p .mv, [.l 102], none⟩])
  (.seq
  (.reg [⟨.l 103, .p .mv, [.v 13], none⟩,
    ⟨.l 104, .p (.bin .sub), [.l 103, .k (.m (.i .i64 1))], none⟩,
    ⟨.v 13, .p .mv, [.l 104], none⟩])
  (.seq
  (.blk 4
  c84_L4)
  (.seq
  (.reg [⟨.l 163, .p .mv, [.v 0], none⟩,
    ⟨.l 164, .p .mv, [.v 13], none⟩,
    ⟨.l 165, .p .mv, [.v 0], none⟩,
    ⟨.l 166, .p .mv, [.v 1], none⟩,
    ⟨.l 167, .p .mv, [.v 0], none⟩,
    ⟨.l 168, .p .mv, [.v 1], none⟩,
    ⟨.l 169, .p (.ixa 3), [.l 167, .l 168], none⟩,
    ⟨.l 170, .r (.ld true 3), [.l 169], none⟩,
    ⟨.l 171, .p .mv, [.v 0], none⟩,
    ⟨.l 172, .p .mv, [.v 13], none⟩,
    ⟨.l 173, .p (.ixa 3), [.l 171, .l 172], none⟩,
    ⟨.l 174, .r (.ld true 3), [.l 173], none⟩,
    ⟨.l 175, .p (.ixa 3), [.l 163, .l 164], none⟩,
    ⟨.no, .l (.st 3), [.l 175, .l 170], none⟩,
    ⟨.l 176, .p (.ixa 3), [.l 165, .l 166], none⟩,
    ⟨.no, .l (.st 3), [.l 176, .l 174], none⟩])
  (.seq
  (.reg [⟨.l 177, .p .mv, [.v 13], none⟩,
    ⟨.v 10, .p .mv, [.l 177], none⟩,
    ⟨.v 11, .p .mv, [.k (.m (.b false))], none⟩])
  .ret))))))))))))⟩

/- math/bits.Len32 -/
def c85 : F := ⟨1, [.t 2],
  (.seq
  (.reg [⟨.v 2, .p .mv, [.k (.m (.i .i64 0))], none⟩])
  (.seq
  (.seq
  (.reg [⟨.l 3, .p .mv, [.v 0], none⟩,
    ⟨.v 4, .p (.bin .geq), [.l 3, .k (.m (.i .u32 65536))], none⟩])
  (.ite (.v 4)
    (.seq
    (.reg [⟨.l 5, .p .mv, [.v 0], none⟩,
      ⟨.l 6, .p (.bin .shr), [.l 5, .k (.m (.i .u64 16))], none⟩,
      ⟨.v 0, .p .mv, [.l 6], none⟩])
    (.reg [⟨.v 2, .p .mv, [.k (.m (.i .i64 16))], none⟩]))
    .skip))
  (.seq
  (.seq
  (.reg [⟨.l 7, .p .mv, [.v 0], none⟩,
    ⟨.v 8, .p (.bin .geq), [.l 7, .k (.m (.i .u32 256))], none⟩])
  (.ite (.v 8)
    (.seq
    (.reg [⟨.l 9, .p .mv, [.v 0], none⟩,
      ⟨.l 10, .p (.bin .shr), [.l 9, .k (.m (.i .u64 8))], none⟩,
      ⟨.v 0, .p .mv, [.l 10], none⟩])
    (.reg [⟨.l 11, .p .mv, [.v 2], none⟩,
      ⟨.l 12, .p (.bin .add), [.l 11, .k (.m (.i .i64 8))], none⟩,
      ⟨.v 2, .p .mv, [.l 12], none⟩]))
    .skip))
  (.seq
  (.reg [⟨.l 13, .p .mv, [.v 2], none⟩,
    ⟨.l 14, .p .mv, [.v 0], none⟩,
    ⟨.l 15, .p (.cv .u8), [.l 14], none⟩,
    ⟨.l 16, .p .ixs, [.k (.m (.s [0, 1, 2, 2, 3, 3, 3, 3, 4, 4, 4, 4, 4, 4, 4, 4, 5, 5, 5, 5, 5, 5, 5, 5, 5, 5, 5, 5, 5, 5, 5, 5, 6, 6, 6, 6, 6, 6, 6, 6, 6, 6, 6, 6, 6, 6, 6, 6, 6, 6, 6, 6, 6, 6, 6, 6, 6, 6, 6, 6, 6, 6, 6, 6, 7, 7, 7, 7, 7, 7, 7, 7, 7, 7, 7, 7, 7, 7, 7, 7, 7, 7, 7, 7, 7, 7, 7, 7, 7, 7, 7, 7, 7, 7, 7, 7, 7, 7, 7, 7, 7, 7, 7, 7, 7, 7, 7, 7, 7, 7, 7, 7, 7, 7, 7, 7, 7, 7, 7, 7, 7, 7, 7, 7, 7, 7, 7, 7, 8, 8, 8, 8, 8, 8, 8, 8, 8, 8, 8, 8, 8, 8, 8, 8, 8, 8, 8, 8, 8, 8, 8, 8, 8, 8, 8, 8, 8, 8, 8, 8, 8, 8, 8, 8, 8, 8, 8, 8, 8, 8, 8, 8, 8, 8, 8, 8, 8, 8, 8, 8, 8, 8, 8, 8, 8, 8, 8, 8, 8, 8, 8, 8, 8, 8, 8, 8, 8, 8, 8, 8, 8, 8, 8, 8, 8, 8, 8, 8, 8, 8, 8, 8, 8, 8, 8, 8, 8, 8, 8, 8, 8, 8, 8, 8, 8, 8, 8, 8, 8, 8, 8, 8, 8, 8, 8, 8, 8, 8, 8, 8, 8, 8, 8, 8, 8, 8, 8, 8, 8, 8, 8, 8, 8, 8, 8, 8])), .l 15], none⟩,
    ⟨.l 17, .p (.cv .i64), [.l 16], none⟩,
    ⟨.l 18, .p (.bin .add), [.l 13, .l 17], none⟩,
    ⟨.v 2, .p .mv, [.l 18], none⟩])
  .ret))))⟩

/- math/bits.Len64 -/
def c86 : F := ⟨1, [.t 2],
  (.seq
  (.reg [⟨.v 2, .p .mv, [.k (.m (.i .i64 0))], none⟩])
  (.seq
  (.seq
  (.reg [⟨.l 3, .p .mv, [.v 0], none⟩,
    ⟨.v 4, .p (.bin .geq), [.l 3, .k (.m (.i .u64 4294967296))], none⟩])
  (.ite (.v 4)
    (.seq
    (.reg [⟨.l 5, .p .mv, [.v 0], none⟩,
      ⟨.l 6, .p (.bin .shr), [.l 5, .k (.m (.i .u64 32))], none⟩,
      ⟨.v 0, .p .mv, [.l 6], none⟩])
    (.reg [⟨.v 2, .p .mv, [.k (.m (.i .i64 32))], none⟩]))
    .skip))
  (.seq
  (.seq
  (.reg [⟨.l 7, .p .mv, [.v 0], none⟩,
    ⟨.v 8, .p (.bin .geq), [.l 7, .k (.m (.i .u64 65536))], none⟩])
  (.ite (.v 8)
    (.seq
    (.reg [⟨.l 9, .p .mv, [.v 0], none⟩,
      ⟨.l 10, .p (.bin .shr), [.l 9, .k (.m (.i .u64 16))], none⟩,
      ⟨.v 0, .p .mv, [.l 10], none⟩])
    (.reg [⟨.l 11, .p .mv, [.v 2], none⟩,
      ⟨.l 12, .p (.bin .add), [.l 11, .k (.m (.i .i64 16))], none⟩,
      ⟨.v 2, .p .mv, [.l 12], none⟩]))
    .skip))
  (.seq
  (.seq
  (.reg [⟨.l 13, .p .mv, [.v 0], none⟩,
    ⟨.v 14, .p (.bin .geq), [.l 13, .k (.m (.i .u64 256))], none⟩])
  (.ite (.v 14)
    (.seq
    (.reg [⟨.l 15, .p .mv, [.v 0], none⟩,
      ⟨.l 16, .p (.bin .shr), [.l 15, .k (.m (.i .u64 8))], none⟩,
      ⟨.v 0, .p .mv, [.l 16], none⟩])
    (.reg [⟨.l 17, .p .mv, [.v 2], none⟩,
      ⟨.l 18, .p (.bin .add), [.l 17, .k (.m (.i .i64 8))], none⟩,
      ⟨.v 2, .p .mv, [.l 18], none⟩]))
    .skip))
  (.seq
  (.reg [⟨.l 19, .p .mv, [.v 2], none⟩,
    ⟨.l 20, .p .mv, [.v 0], none⟩,
    ⟨.l 21, .p (.cv .u8), [.l 20], none⟩,
    ⟨.l 22, .p .ixs, [.k (.m (.s [0, 1, 2, 2, 3, 3, 3, 3, 4, 4, 4, 4, 4, 4, 4, 4, 5, 5, 5, 5, 5, 5, 5, 5, 5, 5, 5, 5, 5, 5, 5, 5, 6, 6, 6, 6, 6, 6, 6, 6, 6, 6, 6, 6, 6, 6, 6, 6, 6, 6, 6, 6, 6, 6, 6, 6, 6, 6, 6, 6, 6, 6, 6, 6, 7, 7, 7, 7, 7, 7, 7, 7, 7, 7, 7, 7, 7, 7, 7, 7, 7, 7, 7, 7, 7, 7, 7, 7, 7, 7, 7, 7, 7, 7, 7, 7, 7, 7, 7, 7, 7, 7, 7, 7, 7, 7, 7, 7, 7, 7, 7, 7, 7, 7, 7, 7, 7, 7, 7, 7, 7, 7, 7, 7, 7, 7, 7, 7, 8, 8, 8, 8, 8, 8, 8, 8, 8, 8, 8, 8, 8, 8, 8, 8, 8, 8, 8, 8, 8, 8, 8, 8, 8, 8, 8, 8, 8, 8, 8, 8, 8, 8, 8, 8, 8, 8, 8, 8, 8, 8, 8, 8, 8, 8, 8, 8, 8, 8, 8, 8, 8, 8, 8, 8, 8, 8, 8, 8, 8, 8, 8, 8, 8, 8, 8, 8, 8, 8, 8, 8, 8, 8, 8, 8, 8, 8, 8, 8, 8, 8, 8, 8, 8, 8, 8, 8, 8, 8, 8, 8, 8, 8, 8, 8, 8, 8, 8, 8, 8, 8, 8, 8, 8, 8, 8, 8, 8, 8, 8, 8, 8, 8, 8, 8, 8, 8, 8, 8, 8, 8, 8, 8, 8, 8, 8, 8])), .l 21], none⟩,
    ⟨.l 23, .p (.cv .i64), [.l 22], none⟩,
    ⟨.l 24, .p (.bin .add), [.l 19, .l 23], none⟩,
    ⟨.v 2, .p .mv, [.l 24], none⟩])
  .ret)))))⟩

/- cmp.Or[int] -/
def c87_B0 : C :=
  (.seq
  (.reg [⟨.v 9, .p (.bin .lss), [.v 8, .v 7], none⟩])
  (.seq
  (.ite (.v 9)
    .skip
    (.ex 0))
  (.seq
  (.blk 1
  (.seq
  (.reg [⟨.l 10, .p (.ixa 1), [.v 6, .v 8], none⟩,
    ⟨.l 11, .r (.ld false 1), [.l 10], none⟩,
    ⟨.v 5, .p .mv, [.l 11], none⟩])
  (.seq
  (.reg [⟨.l 12, .p .mv, [.v 5], none⟩,
    ⟨.l 13, .p .mv, [.v 3], none⟩,
    ⟨.v 14, .p (.bin .neq), [.l 12, .l 13], none⟩])
  (.ite (.v 14)
    (.seq
    (.reg [⟨.l 15, .p .mv, [.v 5], none⟩,
      ⟨.v 2, .p .mv, [.l 15], none⟩])
    .ret)
    .skip))))
  (.reg [⟨.l 16, .p (.bin .add), [.v 8, .k (.m (.i .i64 1))], none⟩,
    ⟨.v 8, .p .mv, [.l 16], none⟩]))))
def c87_L0 : C := .loop [0, 2, 5, 9, 14] c87_B0
def c87 : F := ⟨1, [.t 2],
  (.seq
  (.reg [⟨.v 2, .p .mv, [.k (.m (.i .i64 0))], none⟩])
  (.seq
  (.reg [⟨.v 3, .p .mv, [.k (.m (.i .i64 0))], none⟩])
  (.seq
  (.seq
  (.reg [⟨.v 6, .p .mv, [.v 0], none⟩,
    ⟨.v 7, .p (.len false), [.v 6], none⟩,
    ⟨.v 8, .p .mv, [.k (.m (.i .i64 0))], none⟩])
  (.blk 0
  c87_L0))
  (.seq
  (.reg [⟨.l 17, .p .mv, [.v 3], none⟩,
    ⟨.v 2, .p .mv, [.l 17], none⟩])
  .ret))))⟩

/- cmp.Compare[int] -/
def c88 : F := ⟨2, [.t 4],
  (.seq
  (.reg [⟨.v 4, .p .mv, [.k (.m (.i .i64 0))], none⟩])
  (.seq
  (.reg [⟨.l 7, .p .mv, [.v 0], none⟩,
    ⟨.l 8, .l (.cal 113), [.l 7], none⟩,
    ⟨.v 5, .p .mv, [.l 8], none⟩])
  (.seq
  (.reg [⟨.l 9, .p .mv, [.v 1], none⟩,
    ⟨.l 10, .l (.cal 113), [.l 9], none⟩,
    ⟨.v 6, .p .mv, [.l 10], none⟩])
  (.seq
  (.seq
  (.reg [⟨.v 11, .p .mv, [.v 5], none⟩])
  (.ite (.v 11)
    (.seq
    (.seq
    (.reg [⟨.v 12, .p .mv, [.v 6], none⟩])
    (.ite (.v 12)
      (.seq
      (.reg [⟨.v 4, .p .mv, [.k (.m (.i .i64 0))], none⟩])
      .ret)
      .skip))
    (.seq
    (.reg [⟨.v 4, .p .mv, [.k (.m (.i .i64 (-1)))], none⟩])
    .ret))
    .skip))
  (.seq
  (.seq
  (.reg [⟨.v 13, .p .mv, [.v 6], none⟩])
  (.ite (.v 13)
    (.seq
    (.reg [⟨.v 4, .p .mv, [.k (.m (.i .i64 1))], none⟩])
    .ret)
    .skip))
  (.seq
  (.seq
  (.reg [⟨.l 14, .p .mv, [.v 0], none⟩,
    ⟨.l 15, .p .mv, [.v 1], none⟩,
    ⟨.v 16, .p (.bin .lss), [.l 14, .l 15], none⟩])
  (.ite (.v 16)
    (.seq
    (.reg [⟨.v 4, .p .mv, [.k (.m (.i .i64 (-1)))], none⟩])
    .ret)
    .skip))
  (.seq
  (.seq
  (.reg [⟨.l 17, .p .mv, [.v 0], none⟩,
    ⟨.l 18, .p .mv, [.v 1], none⟩,
    ⟨.v 19, .p (.bin .gtr), [.l 17, .l 18], none⟩])
  (.ite (.v 19)
    (.seq
    (.reg [⟨.v 4, .p .mv, [.k (.m (.i .i64 1))], none⟩])
    .ret)
    .skip))
  (.seq
  (.reg [⟨.v 4, .p .mv, [.k (.m (.i .i64 0))], none⟩])
  .ret))))))))⟩

/- internal/strconv.small -/
def c89 : F := ⟨1, [.t 2],
  (.seq
  (.reg [⟨.v 2, .p .mv, [.k (.m (.s []))], none⟩])
  (.seq
  (.seq
  (.reg [⟨.l 3, .p .mv, [.v 0], none⟩,
    ⟨.v 4, .p (.bin .lss), [.l 3, .k (.m (.i .i64 10))], none⟩])
  (.ite (.v 4)
    (.seq
    (.reg [⟨.l 5, .p .mv, [.v 0], none⟩,
      ⟨.l 6, .p .mv, [.v 0], none⟩,
      ⟨.l 7, .p (.bin .add), [.l 6, .k (.m (.i .i64 1))], none⟩,
      ⟨.l 8, .p (.slc 0 true true false), [.k (.m (.s [48, 49, 50, 51, 52, 53, 54, 55, 56, 57, 97, 98, 99, 100, 101, 102, 103, 104, 105, 106, 107, 108, 109, 110, 111, 112, 113, 114, 115, 116, 117, 118, 119, 120, 121, 122])), .l 5, .l 7], none⟩,
      ⟨.v 2, .p .mv, [.l 8], none⟩])
    .ret)
    .skip))
  (.seq
  (.reg [⟨.l 9, .p .mv, [.v 0], none⟩,
    ⟨.l 10, .p (.bin .mul), [.l 9, .k (.m (.i .i64 2))], none⟩,
    ⟨.l 11, .p .mv, [.v 0], none⟩,
    ⟨.l 12, .p (.bin .mul), [.l 11, .k (.m (.i .i64 2))], none⟩,
    ⟨.l 13, .p (.bin .add), [.l 12, .k (.m (.i .i64 2))], none⟩,
    ⟨.l 14, .p (.slc 0 true true false), [.k (.m (.s [48, 48, 48, 49, 48, 50, 48, 51, 48, 52, 48, 53, 48, 54, 48, 55, 48, 56, 48, 57, 49, 48, 49, 49, 49, 50, 49, 51, 49, 52, 49, 53, 49, 54, 49, 55, 49, 56, 49, 57, 50, 48, 50, 49, 50, 50, 50, 51, 50, 52, 50, 53, 50, 54, 50, 55, 50, 56, 50, 57, 51, 48, 51, 49, 51, 50, 51, 51, 51, 52, 51, 53, 51, 54, 51, 55, 51, 56, 51, 57, 52, 48, 52, 49, 52, 50, 52, 51, 52, 52, 52, 53, 52, 54, 52, 55, 52, 56, 52, 57, 53, 48, 53, 49, 53, 50, 53, 51, 53, 52, 53, 53, 53, 54, 53, 55, 53, 56, 53, 57, 54, 48, 54, 49, 54, 50, 54, 51, 54, 52, 54, 53, 54, 54, 54, 55, 54, 56, 54, 57, 55, 48, 55, 49, 55, 50, 55, 51, 55, 52, 55, 53, 55, 54, 55, 55, 55, 56, 55, 57, 56, 48, 56, 49, 56, 50, 56, 51, 56, 52, 56, 53, 56, 54, 56, 55, 56, 56, 56, 57, 57, 48, 57, 49, 57, 50, 57, 51, 57, 52, 57, 53, 57, 54, 57, 55, 57, 56, 57, 57])), .l 10, .l 13], none⟩,
    ⟨.v 2, .p .mv, [.l 14], none⟩])
  .ret)))⟩

/- internal/strconv.numDigits -/
def c90 : F := ⟨1, [.t 2],
  (.seq
  (.reg [⟨.v 2, .p .mv, [.k (.m (.i .i64 0))], none⟩])
  (.seq
  (.reg [⟨.l 4, .p .mv, [.v 0], none⟩,
    ⟨.l 5, .l (.cal 86), [.l 4], none⟩,
    ⟨.l 6, .l (.cal 114), [.l 5], none⟩,
    ⟨.v 3, .p .mv, [.l 6], none⟩])
  (.seq
  (.reg [⟨.l 7, .p .mv, [.v 3], none⟩,
    ⟨.l 8, .p .mv, [.v 0], none⟩,
    ⟨.l 9, .p .mv, [.v 3], none⟩,
    ⟨.l 10, .p (.ixaA 20 1), [.k (.m (.pt g1)), .l 9], none⟩,
    ⟨.l 11, .r (.ld false 1), [.l 10], none⟩,
    ⟨.l 12, .p (.bin .geq), [.l 8, .l 11], none⟩,
    ⟨.l 13, .l (.cal 115), [.l 12], none⟩,
    ⟨.l 14, .p (.bin .add), [.l 7, .l 13], none⟩,
    ⟨.v 2, .p .mv, [.l 14], none⟩])
  .ret)))⟩

/- internal/strconv.formatBase10 -/
def c91_B0 : C :=
  (.seq
  (.seq
  (.reg [⟨.l 19, .p .mv, [.v 4], none⟩,
    ⟨.v 20, .p (.bin .geq), [.l 19, .k (.m (.i .i64 8))], none⟩])
  (.ite (.v 20)
    .skip
    (.ex 0)))
  (.blk 1
  (.seq
  (.reg [⟨.l 21, .p .mv, [.v 1], none⟩,
    ⟨.l 22, .p (.bin .rem), [.l 21, .k (.m (.i .u64 100000000))], none⟩,
    ⟨.l 23, .p (.cv .u32), [.l 22], none⟩,
    ⟨.v 5, .p .mv, [.l 23], none⟩])
  (.seq
  (.reg [⟨.l 24, .p .mv, [.v 1], none⟩,
    ⟨.l 25, .p (.bin .quo), [.l 24, .k (.m (.i .u64 100000000))], none⟩,
    ⟨.v 1, .p .mv, [.l 25], none⟩])
  (.seq
  (.reg [⟨.l 26, .p .mv, [.v 5], none⟩,
    ⟨.l 27, .p (.bin .quo), [.l 26, .k (.m (.i .u32 10000))], none⟩,
    ⟨.l 28, .p .mv, [.v 5], none⟩,
    ⟨.l 29, .p (.bin .rem), [.l 28, .k (.m (.i .u32 10000))], none⟩,
    ⟨.v 6, .p .mv, [.l 27], none⟩,
    ⟨.v 7, .p .mv, [.l 29], none⟩])
  (.seq
  (.reg [⟨.l 30, .p .mv, [.v 7], none⟩,
    ⟨.l 31, .p (.bin .quo), [.l 30, .k (.m (.i .u32 100))], none⟩,
    ⟨.l 32, .p (.bin .mul), [.l 31, .k (.m (.i .u32 2))], none⟩,
    ⟨.l 33, .p .mv, [.v 7], none⟩,
    ⟨.l 34, .p (.bin .rem), [.l 33, .k (.m (.i .u32 100))], none⟩,
    ⟨.l 35, .p (.bin .mul), [.l 34, .k (.m (.i .u32 2))], none⟩,
    ⟨.v 8, .p .mv, [.l 32], none⟩,
    ⟨.v 9, .p .mv, [.l 35], none⟩])
  (.seq
  (.reg [⟨.l 36, .p .mv, [.v 6], none⟩,
    ⟨.l 37, .p (.bin .quo), [.l 36, .k (.m (.i .u32 100))], none⟩,
    ⟨.l 38, .p (.bin .mul), [.l 37, .k (.m (.i .u32 2))], none⟩,
    ⟨.l 39, .p .mv, [.v 6], none⟩,
    ⟨.l 40, .p (.bin .rem), [.l 39, .k (.m (.i .u32 100))], none⟩,
    ⟨.l 41, .p (.bin .mul), [.l 40, .k (.m (.i .u32 2))], none⟩,
    ⟨.v 10, .p .mv, [.l 38], none⟩,
    ⟨.v 11, .p .mv, [.l 41], none⟩])
  (.seq
  (.reg [⟨.l 42, .p .mv, [.v 0], none⟩,
    ⟨.l 43, .p .mv, [.v 4], none⟩,
    ⟨.l 44, .p (.bin .sub), [.l 43, .k (.m (.i .i64 1))], none⟩,
    ⟨.l 45, .p .mv, [.v 0], none⟩,
    ⟨.l 46, .p .mv, [.v 4], none⟩,
    ⟨.l 47, .p (.bin .sub), [.l 46, .k (.m (.i .i64 2))], none⟩,
    ⟨.l 48, .p .mv, [.v 9], none⟩,
    ⟨.l 49, .p (.bin .add), [.l 48, .k (.m (.i .u32 1))], none⟩,
    ⟨.l 50, .p .ixs, [.k (.m (.s [48, 48, 48, 49, 48, 50, 48, 51, 48, 52, 48, 53, 48, 54, 48, 55, 48, 56, 48, 57, 49, 48, 49, 49, 49, 50, 49, 51, 49, 52, 49, 53, 49, 54, 49, 55, 49, 56, 49, 57, 50, 48, 50, 49, 50, 50, 50, 51, 50, 52, 50, 53, 50, 54, 50, 55, 50, 56, 50, 57, 51, 48, 51, 49, 51, 50, 51, 51, 51, 52, 51, 53, 51, 54, 51, 55, 51, 56, 51, 57, 52, 48, 52, 49, 52, 50, 52, 51, 52, 52, 52, 53, 52, 54, 52, 55, 52, 56, 52, 57, 53, 48, 53, 49, 53, 50, 53, 51, 53, 52, 53, 53, 53, 54, 53, 55, 53, 56, 53, 57, 54, 48, 54, 49, 54, 50, 54, 51, 54, 52, 54, 53, 54, 54, 54, 55, 54, 56, 54, 57, 55, 48, 55, 49, 55, 50, 55, 51, 55, 52, 55, 53, 55, 54, 55, 55, 55, 56, 55, 57, 56, 48, 56, 49, 56, 50, 56, 51, 56, 52, 56, 53, 56, 54, 56, 55, 56, 56, 56, 57, 57, 48, 57, 49, 57, 50, 57, 51, 57, 52, 57, 53, 57, 54, 57, 55, 57, 56, 57, 57])), .l 49], none⟩,
    ⟨.l 51, .p .mv, [.v 9], none⟩,
    ⟨.l 52, .p .ixs, [.k (.m (.s [48, 48, 48, 49, 48, 50, 48, 51, 48, 52, 48, 53, 48, 54, 48, 55, 48, 56, 48, 57, 49, 48, 49, 49, 49, 50, 49, 51, 49, 52, 49, 53, 49, 54, 49, 55, 49, 56, 49, 57, 50, 48, 50, 49, 50, 50, 50, 51, 50, 52, 50, 53, 50, 54, 50, 55, 50, 56, 50, 57, 51, 48, 51, 49, 51, 50, 51, 51, 51, 52, 51, 53, 51, 54, 51, 55, 51, 56, 51, 57, 52, 48, 52, 49, 52, 50, 52, 51, 52, 52, 52, 53, 52, 54, 52, 55, 52, 56, 52, 57, 53, 48, 53, 49, 53, 50, 53, 51, 53, 52, 53, 53, 53, 54, 53, 55, 53, 56, 53, 57, 54, 48, 54, 49, 54, 50, 54, 51, 54, 52, 54, 53, 54, 54, 54, 55, 54, 56, 54, 57, 55, 48, 55, 49, 55, 50, 55, 51, 55, 52, 55, 53, 55, 54, 55, 55, 55, 56, 55, 57, 56, 48, 56, 49, 56, 50, 56, 51, 56, 52, 56, 53, 56, 54, 56, 55, 56, 56, 56, 57, 57, 48, 57, 49, 57, 50, 57, 51, 57, 52, 57, 53, 57, 54, 57, 55, 57, 56, 57, 57])), .l 51], none⟩,
    ⟨.l 53, .p (.ixa 1), [.l 42, .l 44], none⟩,
    ⟨.no, .l (.st 1), [.l 53, .l 50], none⟩,
    ⟨.l 54, .p (.ixa 1), [.l 45, .l 47], none⟩,
    ⟨.no, .l (.st 1), [.l 54, .l 52], none⟩])
  (.seq
  (.reg [⟨.l 55, .p .mv, [.v 0], none⟩,
    ⟨.l 56, .p .mv, [.v 4], none⟩,
    ⟨.l 57, .p (.bin .sub), [.l 56, .k (.m (.i .i64 3))], none⟩,
    ⟨.l 58, .p .mv, [.v 0], none⟩,
    ⟨.l 59, .p .mv, [.v 4], none⟩,
    ⟨.l 60, .p (.bin .sub), [.l 59, .k (.m (.i .i64 4))], none⟩,
    ⟨.l 61, .p .mv, [.v 8], none⟩,
    ⟨.l 62, .p (.bin .add), [.l 61, .k (.m (.i .u32 1))], none⟩,
    ⟨.l 63, .p .ixs, [.k (.m (.s [48, 48, 48, 49, 48, 50, 48, 51, 48, 52, 48, 53, 48, 54, 48, 55, 48, 56, 48, 57, 49, 48, 49, 49, 49, 50, 49, 51, 49, 52, 49, 53, 49, 54, 49, 55, 49, 56, 49, 57, 50, 48, 50, 49, 50, 50, 50, 51, 50, 52, 50, 53, 50, 54, 50, 55, 50, 56, 50, 57, 51, 48, 51, 49, 51, 50, 51, 51, 51, 52, 51, 53, 51, 54, 51, 55, 51, 56, 51, 57, 52, 48, 52, 49, 52, 50, 52, 51, 52, 52, 52, 53, 52, 54, 52, 55, 52, 56, 52, 57, 53, 48, 53, 49, 53, 50, 53, 51, 53, 52, 53, 53, 53, 54, 53, 55, 53, 56, 53, 57, 54, 48, 54, 49, 54, 50, 54, 51, 54, 52, 54, 53, 54, 54, 54, 55, 54, 56, 54, 57, 55, 48, 55, 49, 55, 50, 55, 51, 55, 52, 55, 53, 55, 54, 55, 55, 55, 56, 55, 57, 56, 48, 56, 49, 56, 50, 56, 51, 56, 52, 56, 53, 56, 54, 56, 55, 56, 56, 56, 57, 57, 48, 57, 49, 57, 50, 57, 51, 57, 52, 57, 53, 57, 54, 57, 55, 57, 56, 57, 57])), .l 62], none⟩,
    ⟨.l 64, .p .mv, [.v 8], none⟩,
    ⟨.l 65, .p .ixs, [.k (.m (.s [48, 48, 48, 49, 48, 50, 48, 51, 48, 52, 48, 53, 48, 54, 48, 55, 48, 56, 48, 57, 49, 48, 49, 49, 49, 50, 49, 51, 49, 52, 49, 53, 49, 54, 49, 55, 49, 56, 49, 57, 50, 48, 50, 49, 50, 50, 50, 51, 50, 52, 50, 53, 50, 54, 50, 55, 50, 56, 50, 57, 51, 48, 51, 49, 51, 50, 51, 51, 51, 52, 51, 53, 51, 54, 51, 55, 51, 56, 51, 57, 52, 48, 52, 49, 52, 50, 52, 51, 52, 52, 52, 53, 52, 54, 52, 55, 52, 56, 52, 57, 53, 48, 53, 49, 53, 50, 53, 51, 53, 52, 53, 53, 53, 54, 53, 55, 53, 56, 53, 57, 54, 48, 54, 49, 54, 50, 54, 51, 54, 52, 54, 53, 54, 54, 54, 55, 54, 56, 54, 57, 55, 48, 55, 49, 55, 50, 55, 51, 55, 52, 55, 53, 55, 54, 55, 55, 55, 56, 55, 57, 56, 48, 56, 49, 56, 50, 56, 51, 56, 52, 56, 53, 56, 54, 56, 55, 56, 56, 56, 57, 57, 48, 57, 49, 57, 50, 57, 51, 57, 52, 57, 53, 57, 54, 57, 55, 57, 56, 57, 57])), .l 64], none⟩,
    ⟨.l 66, .p (.ixa 1), [.l 55, .l 57], none⟩,
    ⟨.no, .l (.st 1), [.l 66, .l 63], none⟩,
    ⟨.l 67, .p (.ixa 1), [.l 58, .l 60], none⟩,
    ⟨.no, .l (.st 1), [.l 67, .l 65], none⟩])
  (.seq
  (.reg [⟨.l 68, .p .mv, [.v 0], none⟩,
    ⟨.l 69, .p .mv, [.v 4], none⟩,
    ⟨.l 70, .p (.bin .sub), [.l 69, .k (.m (.i .i64 5))], none⟩,
    ⟨.l 71, .p .mv, [.v 0], none⟩,
    ⟨.l 72, .p .mv, [.v 4], none⟩,
    ⟨.l 73, .p (.bin .sub), [.l 72, .k (.m (.i .i64 6))], none⟩,
    ⟨.l 74, .p .mv, [.v 11], none⟩,
    ⟨.l 75, .p (.bin .add), [.l 74, .k (.m (.i .u32 1))], none⟩,
    ⟨.l 76, .p .ixs, [.k (.m (.s [48, 48, 48, 49, 48, 50, 48, 51, 48, 52, 48, 53, 48, 54, 48, 55, 48, 56, 48, 57, 49, 48, 49, 49, 49, 50, 49, 51, 49, 52, 49, 53, 49, 54, 49, 55, 49, 56, 49, 57, 50, 48, 50, 49, 50, 50, 50, 51, 50, 52, 50, 53, 50, 54, 50, 55, 50, 56, 50, 57, 51, 48, 51, 49, 51, 50, 51, 51, 51, 52, 51, 53, 51, 54, 51, 55, 51, 56, 51, 57, 52, 48, 52, 49, 52, 50, 52, 51, 52, 52, 52, 53, 52, 54, 52, 55, 52, 56, 52, 57, 53, 48, 53, 49, 53, 50, 53, 51, 53, 52, 53, 53, 53, 54, 53, 55, 53, 56, 53, 57, 54, 48, 54, 49, 54, 50, 54, 51, 54, 52, 54, 53, 54, 54, 54, 55, 54, 56, 54, 57, 55, 48, 55, 49, 55, 50, 55, 51, 55, 52, 55, 53, 55, 54, 55, 55, 55, 56, 55, 57, 56, 48, 56, 49, 56, 50, 56, 51, 56, 52, 56, 53, 56, 54, 56, 55, 56, 56, 56, 57, 57, 48, 57, 49, 57, 50, 57, 51, 57, 52, 57, 53, 57, 54, 57, 55, 57, 56, 57, 57])), .l 75], none⟩,
    ⟨.l 77, .p .mv, [.v 11], none⟩,
    ⟨.l 78, .p .ixs, [.k (.m (.s [48, 48, 48, 49, 48, 50, 48, 51, 48, 52, 48, 53, 48, 54, 48, 55, 48, 56, 48, 57, 49, 48, 49, 49, 49, 50, 49, 51, 49, 52, 49, 53, 49, 54, 49, 55, 49, 56, 49, 57, 50, 48, 50, 49, 50, 50, 50, 51, 50, 52, 50, 53, 50, 54, 50, 55, 50, 56, 50, 57, 51, 48, 51, 49, 51, 50, 51, 51, 51, 52, 51, 53, 51, 54, 51, 55, 51, 56, 51, 57, 52, 48, 52, 49, 52, 50, 52, 51, 52, 52, 52, 53, 52, 54, 52, 55, 52, 56, 52, 57, 53, 48, 53, 49, 53, 50, 53, 51, 53, 52, 53, 53, 53, 54, 53, 55, 53, 56, 53, 57, 54, 48, 54, 49, 54, 50, 54, 51, 54, 52, 54, 53, 54, 54, 54, 55, 54, 56, 54, 57, 55, 48, 55, 49, 55, 50, 55, 51, 55, 52, 55, 53, 55, 54, 55, 55, 55, 56, 55, 57, 56, 48, 56, 49, 56, 50, 56, 51, 56, 52, 56, 53, 56, 54, 56, 55, 56, 56, 56, 57, 57, 48, 57, 49, 57, 50, 57, 51, 57, 52, 57, 53, 57, 54, 57, 55, 57, 56, 57, 57])), .l 77], none⟩,
    ⟨.l 79, .p (.ixa 1), [.l 68, .l 70], none⟩,
    ⟨.no, .l (.st 1), [.l 79, .l 76], none⟩,
    ⟨.l 80, .p (.ixa 1), [.l 71, .l 73], none⟩,
    ⟨.no, .l (.st 1), [.l 80, .l 78], none⟩])
  (.seq
  (.reg [⟨.l 81, .p .mv, [.v 0], none⟩,
    ⟨.l 82, .p .mv, [.v 4], none⟩,
    ⟨.l 83, .p (.bin .sub), [.l 82, .k (.m (.i .i64 7))], none⟩,
    ⟨.l 84, .p .mv, [.v 0], none⟩,
    ⟨.l 85, .p .mv, [.v 4], none⟩,
    ⟨.l 86, .p (.bin .sub), [.l 85, .k (.m (.i .i64 8))], none⟩,
    ⟨.l 87, .p .mv, [.v 10], none⟩,
    ⟨.l 88, .p (.bin .add), [.l 87, .k (.m (.i .u32 1))], none⟩,
    ⟨.l 89, .p .ixs, [.k (.m (.s [48, 48, 48, 49, 48, 50, 48, 51, 48, 52, 48, 53, 48, 54, 48, 55, 48, 56, 48, 57, 49, 48, 49, 49, 49, 50, 49, 51, 49, 52, 49, 53, 49, 54, 49, 55, 49, 56, 49, 57, 50, 48, 50, 49, 50, 50, 50, 51, 50, 52, 50, 53, 50, 54, 50, 55, 50, 56, 50, 57, 51, 48, 51, 49, 51, 50, 51, 51, 51, 52, 51, 53, 51, 54, 51, 55, 51, 56, 51, 57, 52, 48, 52, 49, 52, 50, 52, 51, 52, 52, 52, 53, 52, 54, 52, 55, 52, 56, 52, 57, 53, 48, 53, 49, 53, 50, 53, 51, 53, 52, 53, 53, 53, 54, 53, 55, 53, 56, 53, 57, 54, 48, 54, 49, 54, 50, 54, 51, 54, 52, 54, 53, 54, 54, 54, 55, 54, 56, 54, 57, 55, 48, 55, 49, 55, 50, 55, 51, 55, 52, 55, 53, 55, 54, 55, 55, 55, 56, 55, 57, 56, 48, 56, 49, 56, 50, 56, 51, 56, 52, 56, 53, 56, 54, 56, 55, 56, 56, 56, 57, 57, 48, 57, 49, 57, 50, 57, 51, 57, 52, 57, 53, 57, 54, 57, 55, 57, 56, 57, 57])), .l 88], none⟩,
    ⟨.l 90, .p .mv, [.v 10], none⟩,
    ⟨.l 91, .p .ixs, [.k (.m (.s [48, 48, 48, 49, 48, 50, 48, 51, 48, 52, 48, 53, 48, 54, 48, 55, 48, 56, 48, 57, 49, 48, 49, 49, 49, 50, 49, 51, 49, 52, 49, 53, 49, 54, 49, 55, 49, 56, 49, 57, 50, 48, 50, 49, 50, 50, 50, 51, 50, 52, 50, 53, 50, 54, 50, 55, 50, 56, 50, 57, 51, 48, 51, 49, 51, 50, 51, 51, 51, 52, 51, 53, 51, 54, 51, 55, 51, 56, 51, 57, 52, 48, 52, 49, 52, 50, 52, 51, 52, 52, 52, 53, 52, 54, 52, 55, 52, 56, 52, 57, 53, 48, 53, 49, 53, 50, 53, 51, 53, 52, 53, 53, 53, 54, 53, 55, 53, 56, 53, 57, 54, 48, 54, 49, 54, 50, 54, 51, 54, 52, 54, 53, 54, 54, 54, 55, 54, 56, 54, 57, 55, 48, 55, 49, 55, 50, 55, 51, 55, 52, 55, 53, 55, 54, 55, 55, 55, 56, 55, 57, 56, 48, 56, 49, 56, 50, 56, 51, 56, 52, 56, 53, 56, 54, 56, 55, 56, 56, 56, 57, 57, 48, 57, 49, 57, 50, 57, 51, 57, 52, 57, 53, 57, 54, 57, 55, 57, 56, 57, 57])), .l 90], none⟩,
    ⟨.l 92, .p (.ixa 1), [.l 81, .l 83], none⟩,
    ⟨.no, .l (.st 1), [.l 92, .l 89], none⟩,
    ⟨.l 93, .p (.ixa 1), [.l 84, .l 86], none⟩,
    ⟨.no, .l (.st 1), [.l 93, .l 91], none⟩])
  (.reg [⟨.l 94, .p .mv, [.v 4], none⟩,
    ⟨.l 95, .p (.bin .sub), [.l 94, .k (.m (.i .i64 8))], none⟩,
    ⟨.v 4, .p .mv, [.l 95], none⟩]))))))))))))
def c91_L0 : C := .loop [5, 6, 7, 8, 9, 10, 11, 20] c91_B0
def c91 : F := ⟨2, [],
  (.seq
  (.reg [⟨.l 17, .p .mv, [.v 0], none⟩,
    ⟨.l 18, .p (.len false), [.l 17], none⟩,
    ⟨.v 4, .p .mv, [.l 18], none⟩])
  (.seq
  (.blk 0
  c91_L0)
  (.seq
  (.reg [⟨.l 96, .p .mv, [.v 1], none⟩,
    ⟨.l 97, .p (.cv .u32), [.l 96], none⟩,
    ⟨.v 12, .p .mv, [.l 97], none⟩])
  (.seq
  (.seq
  (.reg [⟨.l 98, .p .mv, [.v 4], none⟩,
    ⟨.v 99, .p (.bin .geq), [.l 98, .k (.m (.i .i64 4))], none⟩])
  (.ite (.v 99)
    (.seq
    (.reg [⟨.l 100, .p .mv, [.v 12], none⟩,
      ⟨.l 101, .p (.bin .rem), [.l 100, .k (.m (.i .u32 10000))], none⟩,
      ⟨.v 13, .p .mv, [.l 101], none⟩])
    (.seq
    (.reg [⟨.l 102, .p .mv, [.v 12], none⟩,
      ⟨.l 103, .p (.bin .quo), [.l 102, .k (.m (.i .u32 10000))], none⟩,
      ⟨.v 12, .p .mv, [.l 103], none⟩])
    (.seq
    (.reg [⟨.l 104, .p .mv, [.v 13], none⟩,
      ⟨.l 105, .p (.bin .quo), [.l 104, .k (.m (.i .u32 100))], none⟩,
      ⟨.l 106, .p (.bin .mul), [.l 105, .k (.m (.i .u32 2))], none⟩,
      ⟨.l 107, .p .mv, [.v 13], none⟩,
      ⟨.l 108, .p (.bin .rem), [.l 107, .k (.m (.i .u32 100))], none⟩,
      ⟨.l 109, .p (.bin .mul), [.l 108, .k (.m (.i .u32 2))], none⟩,
      ⟨.v 14, .p .mv, [.l 106], none⟩,
      ⟨.v 15, .p .mv, [.l 109], none⟩])
    (.seq
    (.reg [⟨.l 110, .p .mv, [.v 0], none⟩,
      ⟨.l 111, .p .mv, [.v 4], none⟩,
      ⟨.l 112, .p (.bin .sub), [.l 111, .k (.m (.i .i64 1))], none⟩,
      ⟨.l 113, .p .mv, [.v 0], none⟩,
      ⟨.l 114, .p .mv, [.v 4], none⟩,
      ⟨.l 115, .p (.bin .sub), [.l 114, .k (.m (.i .i64 2))], none⟩,
      ⟨.l 116, .p .mv, [.v 15], none⟩,
      ⟨.l 117, .p (.bin .add), [.l 116, .k (.m (.i .u32 1))], none⟩,
      ⟨.l 118, .p .ixs, [.k (.m (.s [48, 48, 48, 49, 48, 50, 48, 51, 48, 52, 48, 53, 48, 54, 48, 55, 48, 56, 48, 57, 49, 48, 49, 49, 49, 50, 49, 51, 49, 52, 49, 53, 49, 54, 49, 55, 49, 56, 49, 57, 50, 48, 50, 49, 50, 50, 50, 51, 50, 52, 50, 53, 50, 54, 50, 55, 50, 56, 50, 57, 51, 48, 51, 49, 51, 50, 51, 51, 51, 52, 51, 53, 51, 54, 51, 55, 51, 56, 51, 57, 52, 48, 52, 49, 52, 50, 52, 51, 52, 52, 52, 53, 52, 54, 52, 55, 52, 56, 52, 57, 53, 48, 53, 49, 53, 50, 53, 51, 53, 52, 53, 53, 53, 54, 53, 55, 53, 56, 53, 57, 54, 48, 54, 49, 54, 50, 54, 51, 54, 52, 54, 53, 54, 54, 54, 55, 54, 56, 54, 57, 55, 48, 55, 49, 55, 50, 55, 51, 55, 52, 55, 53, 55, 54, 55, 55, 55, 56, 55, 57, 56, 48, 56, 49, 56, 50, 56, 51, 56, 52, 56, 53, 56, 54, 56, 55, 56, 56, 56, 57, 57, 48, 57, 49, 57, 50, 57, 51, 57, 52, 57, 53, 57, 54, 57, 55, 57, 56, 57, 57])), .l 117], none⟩,
      ⟨.l 119, .p .mv, [.v 15], none⟩,
      ⟨.l 120, .p .ixs, [.k (.m (.s [48, 48, 48, 49, 48, 50, 48, 51, 48, 52, 48, 53, 48, 54, 48, 55, 48, 56, 48, 57, 49, 48, 49, 49, 49, 50, 49, 51, 49, 52, 49, 53, 49, 54, 49, 55, 49, 56, 49, 57, 50, 48, 50, 49, 50, 50, 50, 51, 50, 52, 50, 53, 50, 54, 50, 55, 50, 56, 50, 57, 51, 48, 51, 49, 51, 50, 51, 51, 51, 52, 51, 53, 51, 54, 51, 55, 51, 56, 51, 57, 52, 48, 52, 49, 52, 50, 52, 51, 52, 52, 52, 53, 52, 54, 52, 55, 52, 56, 52, 57, 53, 48, 53, 49, 53, 50, 53, 51, 53, 52, 53, 53, 53, 54, 53, 55, 53, 56, 53, 57, 54, 48, 54, 49, 54, 50, 54, 51, 54, 52, 54, 53, 54, 54, 54, 55, 54, 56, 54, 57, 55, 48, 55, 49, 55, 50, 55, 51, 55, 52, 55, 53, 55, 54, 55, 55, 55, 56, 55, 57, 56, 48, 56, 49, 56, 50, 56, 51, 56, 52, 56, 53, 56, 54, 56, 55, 56, 56, 56, 57, 57, 48, 57, 49, 57, 50, 57, 51, 57, 52, 57, 53, 57, 54, 57, 55, 57, 56, 57, 57])), .l 119], none⟩,
      ⟨.l 121, .p (.ixa 1), [.l 110, .l 112], none⟩,
      ⟨.no, .l (.st 1), [.l 121, .l 118], none⟩,
      ⟨.l 122, .p (.ixa 1), [.l 113, .l 115], none⟩,
      ⟨.no, .l (.st 1), [.l 122, .l 120], none⟩])
    (.seq
    (.reg [⟨.l 123, .p .mv, [.v 0], none⟩,
      ⟨.l 124, .p .mv, [.v 4], none⟩,
      ⟨.l 125, .p (.bin .sub), [.l 124, .k (.m (.i .i64 3))], none⟩,
      ⟨.l 126, .p .mv, [.v 0], none⟩,
      ⟨.l 127, .p .mv, [.v 4], none⟩,
      ⟨.l 128, .p (.bin .sub), [.l 127, .k (.m (.i .i64 4))], none⟩,
      ⟨.l 129, .p .mv, [.v 14], none⟩,
      ⟨.l 130, .p (.bin .add), [.l 129, .k (.m (.i .u32 1))], none⟩,
      ⟨.l 131, .p .ixs, [.k (.m (.s [48, 48, 48, 49, 48, 50, 48, 51, 48, 52, 48, 53, 48, 54, 48, 55, 48, 56, 48, 57, 49, 48, 49, 49, 49, 50, 49, 51, 49, 52, 49, 53, 49, 54, 49, 55, 49, 56, 49, 57, 50, 48, 50, 49, 50, 50, 50, 51, 50, 52, 50, 53, 50, 54, 50, 55, 50, 56, 50, 57, 51, 48, 51, 49, 51, 50, 51, 51, 51, 52, 51, 53, 51, 54, 51, 55, 51, 56, 51, 57, 52, 48, 52, 49, 52, 50, 52, 51, 52, 52, 52, 53, 52, 54, 52, 55, 52, 56, 52, 57, 53, 48, 53, 49, 53, 50, 53, 51, 53, 52, 53, 53, 53, 54, 53, 55, 53, 56, 53, 57, 54, 48, 54, 49, 54, 50, 54, 51, 54, 52, 54, 53, 54, 54, 54, 55, 54, 56, 54, 57, 55, 48, 55, 49, 55, 50, 55, 51, 55, 52, 55, 53, 55, 54, 55, 55, 55, 56, 55, 57, 56, 48, 56, 49, 56, 50, 56, 51, 56, 52, 56, 53, 56, 54, 56, 55, 56, 56, 56, 57, 57, 48, 57, 49, 57, 50, 57, 51, 57, 52, 57, 53, 57, 54, 57, 55, 57, 56, 57, 57])), .l 130], none⟩,
      ⟨.l 132, .p .mv, [.v 14], none⟩,
      ⟨.l 133, .p .ixs, [.k (.m (.s [48, 48, 48, 49, 48, 50, 48, 51, 48, 52, 48, 53, 48, 54, 48, 55, 48, 56, 48, 57, 49, 48, 49, 49, 49, 50, 49, 51, 49, 52, 49, 53, 49, 54, 49, 55, 49, 56, 49, 57, 50, 48, 50, 49, 50, 50, 50, 51, 50, 52, 50, 53, 50, 54, 50, 55, 50, 56, 50, 57, 51, 48, 51, 49, 51, 50, 51, 51, 51, 52, 51, 53, 51, 54, 51, 55, 51, 56, 51, 57, 52, 48, 52, 49, 52, 50, 52, 51, 52, 52, 52, 53, 52, 54, 52, 55, 52, 56, 52, 57, 53, 48, 53, 49, 53, 50, 53, 51, 53, 52, 53, 53, 53, 54, 53, 55, 53, 56, 53, 57, 54, 48, 54, 49, 54, 50, 54, 51, 54, 52, 54, 53, 54, 54, 54, 55, 54, 56, 54, 57, 55, 48, 55, 49, 55, 50, 55, 51, 55, 52, 55, 53, 55, 54, 55, 55, 55, 56, 55, 57, 56, 48, 56, 49, 56, 50, 56, 51, 56, 52, 56, 53, 56, 54, 56, 55, 56, 56, 56, 57, 57, 48, 57, 49, 57, 50, 57, 51, 57, 52, 57, 53, 57, 54, 57, 55, 57, 56, 57, 57])), .l 132], none⟩,
      ⟨.l 134, .p (.ixa 1), [.l 123, .l 125], none⟩,
      ⟨.no, .l (.st 1), [.l 134, .l 131], none⟩,
      ⟨.l 135, .p (.ixa 1), [.l 126, .l 128], none⟩,
      ⟨.no, .l (.st 1), [.l 135, .l 133], none⟩])
    (.reg [⟨.l 136, .p .mv, [.v 4], none⟩,
      ⟨.l 137, .p (.bin .sub), [.l 136, .k (.m (.i .i64 4))], none⟩,
      ⟨.v 4, .p .mv, [.l 137], none⟩]))))))
    .skip))
  (.seq
  (.seq
  (.reg [⟨.l 138, .p .mv, [.v 4], none⟩,
    ⟨.v 139, .p (.bin .geq), [.l 138, .k (.m (.i .i64 2))], none⟩])
  (.ite (.v 139)
    (.seq
    (.reg [⟨.l 140, .p .mv, [.v 12], none⟩,
      ⟨.l 141, .p (.bin .rem), [.l 140, .k (.m (.i .u32 100))], none⟩,
      ⟨.l 142, .p (.bin .mul), [.l 141, .k (.m (.i .u32 2))], none⟩,
      ⟨.v 16, .p .mv, [.l 142], none⟩])
    (.seq
    (.reg [⟨.l 143, .p .mv, [.v 12], none⟩,
      ⟨.l 144, .p (.bin .quo), [.l 143, .k (.m (.i .u32 100))], none⟩,
      ⟨.v 12, .p .mv, [.l 144], none⟩])
    (.seq
    (.reg [⟨.l 145, .p .mv, [.v 0], none⟩,
      ⟨.l 146, .p .mv, [.v 4], none⟩,
      ⟨.l 147, .p (.bin .sub), [.l 146, .k (.m (.i .i64 1))], none⟩,
      ⟨.l 148, .p .mv, [.v 0], none⟩,
      ⟨.l 149, .p .mv, [.v 4], none⟩,
      ⟨.l 150, .p (.bin .sub), [.l 149, .k (.m (.i .i64 2))], none⟩,
      ⟨.l 151, .p .mv, [.v 16], none⟩,
      ⟨.l 152, .p (.bin .add), [.l 151, .k (.m (.i .u32 1))], none⟩,
      ⟨.l 153, .p .ixs, [.k (.m (.s [48, 48, 48, 49, 48, 50, 48, 51, 48, 52, 48, 53, 48, 54, 48, 55, 48, 56, 48, 57, 49, 48, 49, 49, 49, 50, 49, 51, 49, 52, 49, 53, 49, 54, 49, 55, 49, 56, 49, 57, 50, 48, 50, 49, 50, 50, 50, 51, 50, 52, 50, 53, 50, 54, 50, 55, 50, 56, 50, 57, 51, 48, 51, 49, 51, 50, 51, 51, 51, 52, 51, 53, 51, 54, 51, 55, 51, 56, 51, 57, 52, 48, 52, 49, 52, 50, 52, 51, 52, 52, 52, 53, 52, 54, 52, 55, 52, 56, 52, 57, 53, 48, 53, 49, 53, 50, 53, 51, 53, 52, 53, 53, 53, 54, 53, 55, 53, 56, 53, 57, 54, 48, 54, 49, 54, 50, 54, 51, 54, 52, 54, 53, 54, 54, 54, 55, 54, 56, 54, 57, 55, 48, 55, 49, 55, 50, 55, 51, 55, 52, 55, 53, 55, 54, 55, 55, 55, 56, 55, 57, 56, 48, 56, 49, 56, 50, 56, 51, 56, 52, 56, 53, 56, 54, 56, 55, 56, 56, 56, 57, 57, 48, 57, 49, 57, 50, 57, 51, 57, 52, 57, 53, 57, 54, 57, 55, 57, 56, 57, 57])), .l 152], none⟩,
      ⟨.l 154, .p .mv, [.v 16], none⟩,
      ⟨.l 155, .p .ixs, [.k (.m (.s [48, 48, 48, 49, 48, 50, 48, 51, 48, 52, 48, 53, 48, 54, 48, 55, 48, 56, 48, 57, 49, 48, 49, 49, 49, 50, 49, 51, 49, 52, 49, 53, 49, 54, 49, 55, 49, 56, 49, 57, 50, 48, 50, 49, 50, 50, 50, 51, 50, 52, 50, 53, 50, 54, 50, 55, 50, 56, 50, 57, 51, 48, 51, 49, 51, 50, 51, 51, 51, 52, 51, 53, 51, 54, 51, 55, 51, 56, 51, 57, 52, 48, 52, 49, 52, 50, 52, 51, 52, 52, 52, 53, 52, 54, 52, 55, 52, 56, 52, 57, 53, 48, 53, 49, 53, 50, 53, 51, 53, 52, 53, 53, 53, 54, 53, 55, 53, 56, 53, 57, 54, 48, 54, 49, 54, 50, 54, 51, 54, 52, 54, 53, 54, 54, 54, 55, 54, 56, 54, 57, 55, 48, 55, 49, 55, 50, 55, 51, 55, 52, 55, 53, 55, 54, 55, 55, 55, 56, 55, 57, 56, 48, 56, 49, 56, 50, 56, 51, 56, 52, 56, 53, 56, 54, 56, 55, 56, 56, 56, 57, 57, 48, 57, 49, 57, 50, 57, 51, 57, 52, 57, 53, 57, 54, 57, 55, 57, 56, 57, 57])), .l 154], none⟩,
      ⟨.l 156, .p (.ixa 1), [.l 145, .l 147], none⟩,
      ⟨.no, .l (.st 1), [.l 156, .l 153], none⟩,
      ⟨.l 157, .p (.ixa 1), [.l 148, .l 150], none⟩,
      ⟨.no, .l (.st 1), [.l 157, .l 155], none⟩])
    (.reg [⟨.l 158, .p .mv, [.v 4], none⟩,
      ⟨.l 159, .p (.bin .sub), [.l 158, .k (.m (.i .i64 2))], none⟩,
      ⟨.v 4, .p .mv, [.l 159], none⟩]))))
    .skip))
  (.seq
  (.reg [⟨.l 160, .p .mv, [.v 4], none⟩,
    ⟨.v 161, .p (.bin .gtr), [.l 160, .k (.m (.i .i64 0))], none⟩])
  (.ite (.v 161)
    (.reg [⟨.l 162, .p .mv, [.v 0], none⟩,
      ⟨.l 163, .p .mv, [.v 12], none⟩,
      ⟨.l 164, .p (.bin .add), [.k (.m (.i .u32 48)), .l 163], none⟩,
      ⟨.l 165, .p (.cv .u8), [.l 164], none⟩,
      ⟨.l 166, .p (.ixa 1), [.l 162, .k (.m (.i .i64 0))], none⟩,
      ⟨.no, .l (.st 1), [.l 166, .l 165], none⟩])
    .skip)))))))⟩

/- (*strings.asciiSet).contains -/
def c97 : F := ⟨2, [.t 4],
  (.seq
  (.reg [⟨.v 4, .p .mv, [.k (.m (.b false))], none⟩])
  (.seq
  (.reg [⟨.l 5, .p .mv, [.v 0], none⟩,
    ⟨.l 6, .p .mv, [.v 1], none⟩,
    ⟨.l 7, .p .nck, [.l 5], none⟩,
    ⟨.l 8, .p (.ixaA 256 1), [.l 7, .l 6], none⟩,
    ⟨.l 9, .r (.ld false 1), [.l 8], none⟩,
    ⟨.v 4, .p .mv, [.l 9], none⟩])
  .ret))⟩

/- strings.ContainsRune -/
def c99 : F := ⟨2, [.t 4],
  (.seq
  (.reg [⟨.v 4, .p .mv, [.k (.m (.b false))], none⟩])
  (.seq
  (.reg [⟨.l 5, .p .mv, [.v 0], none⟩,
    ⟨.l 6, .p .mv, [.v 1], none⟩,
    ⟨.l 7, .l (.cal 121), [.l 5, .l 6], none⟩,
    ⟨.l 8, .p (.bin .geq), [.l 7, .k (.m (.i .i64 0))], none⟩,
    ⟨.v 4, .p .mv, [.l 8], none⟩])
  .ret))⟩

/- slices.siftDownCmpFunc[cellular/api.Cell] -/
def c108_B0 : C :=
  (.blk 1
  (.seq
  (.reg [⟨.l 13, .p .mv, [.v 10], none⟩,
    ⟨.l 14, .p (.bin .mul), [.k (.m (.i .i64 2)), .l 13], none⟩,
    ⟨.l 15, .p (.bin .add), [.l 14, .k (.m (.i .i64 1))], none⟩,
    ⟨.v 11, .p .mv, [.l 15], none⟩])
  (.seq
  (.seq
  (.reg [⟨.l 16, .p .mv, [.v 11], none⟩,
    ⟨.l 17, .p .mv, [.v 2], none⟩,
    ⟨.v 18, .p (.bin .geq), [.l 16, .l 17], none⟩])
  (.ite (.v 18)
    (.ex 0)
    .skip))
  (.seq
  (.seq
  (.reg [⟨.l 19, .p .mv, [.v 11], none⟩,
    ⟨.l 20, .p (.bin .add), [.l 19, .k (.m (.i .i64 1))], none⟩,
    ⟨.l 21, .p .mv, [.v 2], none⟩,
    ⟨.l 22, .p (.bin .lss), [.l 20, .l 21], none⟩,
    ⟨.l 23, .p .mv, [.l 22], none⟩,
    ⟨.l 24, .p .mv, [.v 4], some (.l 23, true)⟩,
    ⟨.l 25, .p .mv, [.v 0], some (.l 23, true)⟩,
    ⟨.l 26, .p .mv, [.v 3], some (.l 23, true)⟩,
    ⟨.l 27, .p .mv, [.v 11], some (.l 23, true)⟩,
    ⟨.l 28, .p (.bin .add), [.l 26, .l 27], some (.l 23, true)⟩,
    ⟨.l 29, .p (.ixa 3), [.l 25, .l 28], some (.l 23, true)⟩,
    ⟨.l 30, .r (.ld true 3), [.l 29], some (.l 23, true)⟩,
    ⟨.l 31, .p .mv, [.v 0], some (.l 23, true)⟩,
    ⟨.l 32, .p .mv, [.v 3], some (.l 23, true)⟩,
    ⟨.l 33, .p .mv, [.v 11], some (.l 23, true)⟩,
    ⟨.l 34, .p (.bin .add), [.l 32, .l 33], some (.l 23, true)⟩,
    ⟨.l 35, .p (.bin .add), [.l 34, .k (.m (.i .i64 1))], some (.l 23, true)⟩,
    ⟨.l 36, .p (.ixa 3), [.l 31, .l 35], some (.l 23, true)⟩,
    ⟨.l 37, .r (.ld true 3), [.l 36], some (.l 23, true)⟩,
    ⟨.l 38, .l .cav, [.l 24, .l 30, .l 37], some (.l 23, true)⟩,
    ⟨.l 39, .p (.bin .lss), [.l 38, .k (.m (.i .i64 0))], some (.l 23, true)⟩,
    ⟨.v 40, .p .pick, [.l 23, .l 39, .k (.m (.b false))], none⟩])
  (.ite (.v 40)
    (.reg [⟨.l 41, .p .mv, [.v 11], none⟩,
      ⟨.l 42, .p (.bin .add), [.l 41, .k (.m (.i .i64 1))], none⟩,
      ⟨.v 11, .p .mv, [.l 42], none⟩])
    .skip))
  (.seq
  (.seq
  (.reg [⟨.l 43, .p .mv, [.v 4], none⟩,
    ⟨.l 44, .p .mv, [.v 0], none⟩,
    ⟨.l 45, .p .mv, [.v 3], none⟩,
    ⟨.l 46, .p .mv, [.v 10], none⟩,
    ⟨.l 47, .p (.bin .add), [.l 45, .l 46], none⟩,
    ⟨.l 48, .p (.ixa 3), [.l 44, .l 47], none⟩,
    ⟨.l 49, .r (.ld true 3), [.l 48], none⟩,
    ⟨.l 50, .p .mv, [.v 0], none⟩,
    ⟨.l 51, .p .mv, [.v 3], none⟩,
    ⟨.l 52, .p .mv, [.v 11], none⟩,
    ⟨.l 53, .p (.bin .add), [.l 51, .l 52], none⟩,
    ⟨.l 54, .p (.ixa 3), [.l 50, .l 53], none⟩,
    ⟨.l 55, .r (.ld true 3), [.l 54], none⟩,
    ⟨.l 56, .l .cav, [.l 43, .l 49, .l 55], none⟩,
    ⟨.l 57, .p (.bin .lss), [.l 56, .k (.m (.i .i64 0))], none⟩,
    ⟨.v 58, .p (.un .not), [.l 57], none⟩])
  (.ite (.v 58)
    .ret
    .skip))
  (.seq
  (.reg [⟨.l 59, .p .mv, [.v 0], none⟩,
    ⟨.l 60, .p .mv, [.v 3], none⟩,
    ⟨.l 61, .p .mv, [.v 10], none⟩,
    ⟨.l 62, .p (.bin .add), [.l 60, .l 61], none⟩,
    ⟨.l 63, .p .mv, [.v 0], none⟩,
    ⟨.l 64, .p .mv, [.v 3], none⟩,
    ⟨.l 65, .p .mv, [.v 11], none⟩,
    ⟨.l 66, .p (.bin .add), [.l 64, .l 65], none⟩,
    ⟨.l 67, .p .mv, [.v 0], none⟩,
    ⟨.l 68, .p .mv, [.v 3], none⟩,
    ⟨.l 69, .p .mv, [.v 11], none⟩,
    ⟨.l 70, .p (.bin .add), [.l 68, .l 69], none⟩,
    ⟨.l 71, .p (.ixa 3), [.l 67, .l 70], none⟩,
    ⟨.l 72, .r (.ld true 3), [.l 71], none⟩,
    ⟨.l 73, .p .mv, [.v 0], none⟩,
    ⟨.l 74, .p .mv, [.v 3], none⟩,
    ⟨.l 75, .p .mv, [.v 10], none⟩,
    ⟨.l 76, .p (.bin .add), [.l 74, .l 75], none⟩,
    ⟨.l 77, .p (.ixa 3), [.l 73, .l 76], none⟩,
    ⟨.l 78, .r (.ld true 3), [.l 77], none⟩,
    ⟨.l 79, .p (.ixa 3), [.l 59, .l 62], none⟩,
    ⟨.no, .l (.st 3), [.l 79, .l 72], none⟩,
    ⟨.l 80, .p (.ixa 3), [.l 63, .l 66], none⟩,
    ⟨.no, .l (.st 3), [.l 80, .l 78], none⟩])
  (.reg [⟨.l 81, .p .mv, [.v 11], none⟩,
    ⟨.v 10, .p .mv, [.l 81], none⟩])))))))
def c108_L0 : C := .loop [1, 11, 18, 40, 58] c108_B0
def c108 : F := ⟨5, [],
  (.seq
  (.reg [⟨.l 12, .p .mv, [.v 1], none⟩,
    ⟨.v 10, .p .mv, [.l 12], none⟩])
  (.blk 0
  c108_L0))⟩

/- slices.nextPowerOfTwo -/
def c109 : F := ⟨1, [.t 2],
  (.seq
  (.reg [⟨.v 2, .p .mv, [.k (.m (.i .u64 0))], none⟩])
  (.seq
  (.reg [⟨.l 3, .p .mv, [.v 0], none⟩,
    ⟨.l 4, .p (.cv .u64), [.l 3], none⟩,
    ⟨.l 5, .l (.cal 59), [.l 4], none⟩,
    ⟨.l 6, .p (.bin .shl), [.k (.m (.i .u64 1)), .l 5], none⟩,
    ⟨.v 2, .p .mv, [.l 6], none⟩])
  .ret))⟩

/- (*slices.xorshift).Next -/
def c110 : F := ⟨1, [.t 2],
  (.seq
  (.reg [⟨.v 2, .p .mv, [.k (.m (.i .u64 0))], none⟩])
  (.seq
  (.reg [⟨.l 3, .p .mv, [.v 0], none⟩,
    ⟨.l 4, .p .nck, [.l 3], none⟩,
    ⟨.l 5, .r (.ld false 1), [.l 4], none⟩,
    ⟨.l 6, .p .mv, [.v 0], none⟩,
    ⟨.l 7, .p .nck, [.l 6], none⟩,
    ⟨.l 8, .r (.ld false 1), [.l 7], none⟩,
    ⟨.l 9, .p (.bin .shl), [.l 8, .k (.m (.i .u64 13))], none⟩,
    ⟨.l 10, .p (.bin .xor), [.l 5, .l 9], none⟩,
    ⟨.l 11, .p .nck, [.l 3], none⟩,
    ⟨.no, .l (.st 1), [.l 11, .l 10], none⟩])
  (.seq
  (.reg [⟨.l 12, .p .mv, [.v 0], none⟩,
    ⟨.l 13, .p .nck, [.l 12], none⟩,
    ⟨.l 14, .r (.ld false 1), [.l 13], none⟩,
    ⟨.l 15, .p .mv, [.v 0], none⟩,
    ⟨.l 16, .p .nck, [.l 15], none⟩,
    ⟨.l 17, .r (.ld false 1), [.l 16], none⟩,
    ⟨.l 18, .p (.bin .shr), [.l 17, .k (.m (.i .u64 7))], none⟩,
    ⟨.l 19, .p (.bin .xor), [.l 14, .l 18], none⟩,
    ⟨.l 20, .p .nck, [.l 12], none⟩,
    ⟨.no, .l (.st 1), [.l 20, .l 19], none⟩])
  (.seq
  (.reg [⟨.l 21, .p .mv, [.v 0], none⟩,
    ⟨.l 22, .p .nck, [.l 21], none⟩,
    ⟨.l 23, .r (.ld false 1), [.l 22], none⟩,
    ⟨.l 24, .p .mv, [.v 0], none⟩,
    ⟨.l 25, .p .nck, [.l 24], none⟩,
    ⟨.l 26, .r (.ld false 1), [.l 25], none⟩,
    ⟨.l 27, .p (.bin .shl), [.l 26, .k (.m (.i .u64 17))], none⟩,
    ⟨.l 28, .p (.bin .xor), [.l 23, .l 27], none⟩,
    ⟨.l 29, .p .nck, [.l 21], none⟩,
    ⟨.no, .l (.st 1), [.l 29, .l 28], none⟩])
  (.seq
  (.reg [⟨.l 30, .p .mv, [.v 0], none⟩,
    ⟨.l 31, .p .nck, [.l 30], none⟩,
    ⟨.l 32, .r (.ld false 1), [.l 31], none⟩,
    ⟨.v 2, .p .mv, [.l 32], none⟩])
  .ret)))))⟩

/- slices.medianAdjacentCmpFunc[cellular/api.Cell] -/
def c111 : F := ⟨4, [.t 8],
  (.seq
  (.reg [⟨.v 8, .p .mv, [.k (.m (.i .i64 0))], none⟩])
  (.seq
  (.reg [⟨.l 9, .p .mv, [.v 0], none⟩,
    ⟨.l 10, .p .mv, [.v 1], none⟩,
    ⟨.l 11, .p (.bin .sub), [.l 10, .k (.m (.i .i64 1))], none⟩,
    ⟨.l 12, .p .mv, [.v 1], none⟩,
    ⟨.l 13, .p .mv, [.v 1], none⟩,
    ⟨.l 14, .p (.bin .add), [.l 13, .k (.m (.i .i64 1))], none⟩,
    ⟨.l 15, .p .mv, [.v 2], none⟩,
    ⟨.l 16, .p .mv, [.v 3], none⟩,
    ⟨.l 17, .l (.cal 112), [.l 9, .l 11, .l 12, .l 14, .l 15, .l 16], none⟩,
    ⟨.v 8, .p .mv, [.l 17], none⟩])
  .ret))⟩

/- slices.medianCmpFunc[cellular/api.Cell] -/
def c112 : F := ⟨6, [.t 12],
  (.seq
  (.reg [⟨.v 12, .p .mv, [.k (.m (.i .i64 0))], none⟩])
  (.seq
  (.reg [⟨.l 14, .p .mv, [.v 0], none⟩,
    ⟨.l 15, .p .mv, [.v 1], none⟩,
    ⟨.l 16, .p .mv, [.v 2], none⟩,
    ⟨.l 17, .p .mv, [.v 4], none⟩,
    ⟨.l 18, .p .mv, [.v 5], none⟩,
    ⟨.l 19, .l (.cal 126), [.l 14, .l 15, .l 16, .l 17, .l 18], none⟩,
    ⟨.l 13, .p .mv, [.l 19], none⟩,
    ⟨.l 20, .p (.ext 0), [.l 13], none⟩,
    ⟨.l 21, .p (.ext 1), [.l 13], none⟩,
    ⟨.v 1, .p .mv, [.l 20], none⟩,
    ⟨.v 2, .p .mv, [.l 21], none⟩])
  (.seq
  (.reg [⟨.l 23, .p .mv, [.v 0], none⟩,
    ⟨.l 24, .p .mv, [.v 2], none⟩,
    ⟨.l 25, .p .mv, [.v 3], none⟩,
    ⟨.l 26, .p .mv, [.v 4], none⟩,
    ⟨.l 27, .p .mv, [.v 5], none⟩,
    ⟨.l 28, .l (.cal 126), [.l 23, .l 24, .l 25, .l 26, .l 27], none⟩,
    ⟨.l 22, .p .mv, [.l 28], none⟩,
    ⟨.l 29, .p (.ext 0), [.l 22], none⟩,
    ⟨.l 30, .p (.ext 1), [.l 22], none⟩,
    ⟨.v 2, .p .mv, [.l 29], none⟩,
    ⟨.v 3, .p .mv, [.l 30], none⟩])
  (.seq
  (.reg [⟨.l 32, .p .mv, [.v 0], none⟩,
    ⟨.l 33, .p .mv, [.v 1], none⟩,
    ⟨.l 34, .p .mv, [.v 2], none⟩,
    ⟨.l 35, .p .mv, [.v 4], none⟩,
    ⟨.l 36, .p .mv, [.v 5], none⟩,
    ⟨.l 37, .l (.cal 126), [.l 32, .l 33, .l 34, .l 35, .l 36], none⟩,
    ⟨.l 31, .p .mv, [.l 37], none⟩,
    ⟨.l 38, .p (.ext 0), [.l 31], none⟩,
    ⟨.l 39, .p (.ext 1), [.l 31], none⟩,
    ⟨.v 1, .p .mv, [.l 38], none⟩,
    ⟨.v 2, .p .mv, [.l 39], none⟩])
  (.seq
  (.reg [⟨.l 40, .p .mv, [.v 2], none⟩,
    ⟨.v 12, .p .mv, [.l 40], none⟩])
  .ret)))))⟩

/- cmp.isNaN[int] -/
def c113 : F := ⟨1, [.t 2],
  (.seq
  (.reg [⟨.v 2, .p .mv, [.k (.m (.b false))], none⟩])
  (.seq
  (.reg [⟨.l 3, .p .mv, [.v 0], none⟩,
    ⟨.l 4, .p .mv, [.v 0], none⟩,
    ⟨.l 5, .p (.bin .neq), [.l 3, .l 4], none⟩,
    ⟨.v 2, .p .mv, [.l 5], none⟩])
  .ret))⟩

/- internal/strconv.log10Pow2 -/
def c114 : F := ⟨1, [.t 2],
  (.seq
  (.reg [⟨.v 2, .p .mv, [.k (.m (.i .i64 0))], none⟩])
  (.seq
  (.reg [⟨.l 3, .p .mv, [.v 0], none⟩,
    ⟨.l 4, .p (.bin .mul), [.l 3, .k (.m (.i .i64 78913))], none⟩,
    ⟨.l 5, .p (.bin .shr), [.l 4, .k (.m (.i .u64 18))], none⟩,
    ⟨.v 2, .p .mv, [.l 5], none⟩])
  .ret))⟩

/- internal/strconv.bool2[int] -/
def c115 : F := ⟨1, [.t 2],
  (.seq
  (.reg [⟨.v 2, .p .mv, [.k (.m (.i .i64 0))], none⟩])
  (.seq
  (.seq
  (.reg [⟨.v 3, .p .mv, [.v 0], none⟩])
  (.ite (.v 3)
    (.seq
    (.reg [⟨.v 2, .p .mv, [.k (.m (.i .i64 1))], none⟩])
    .ret)
    .skip))
  (.seq
  (.reg [⟨.v 2, .p .mv, [.k (.m (.i .i64 0))], none⟩])
  .ret)))⟩


end Go.Mx.Tryz
