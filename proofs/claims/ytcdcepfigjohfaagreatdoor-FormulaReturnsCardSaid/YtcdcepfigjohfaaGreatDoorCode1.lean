/- The compact code of the functions of this seat, printed by a program of my own; XComp checks it against the translation. -/
import Derived.Test.YtcdcepfigjohfaaGreatDoorRng
import Derived.Test.YtcdcepfigjohfaaGreatDoorCode0
set_option maxRecDepth 100000
namespace Go.Mx.Tryz

/- slices.pdqsortOrdered[int] -/
def c67_B0 : C :=
  (.blk 1
  (.seq
  (.reg [⟨.l 19, .p .mv, [.v 2], none⟩,
    ⟨.l 20, .p .mv, [.v 1], none⟩,
    ⟨.l 21, .p (.bin .sub), [.l 19, .l 20], none⟩,
    ⟨.v 10, .p .mv, [.l 21], none⟩])
  (.seq
  (.seq
  (.reg [⟨.l 22, .p .mv, [.v 10], none⟩,
    ⟨.v 23, .p (.bin .leq), [.l 22, .k (.m (.i .i64 12))], none⟩])
  (.ite (.v 23)
    (.seq
    (.reg [⟨.l 24, .p .mv, [.v 0], none⟩,
      ⟨.l 25, .p .mv, [.v 1], none⟩,
      ⟨.l 26, .p .mv, [.v 2], none⟩,
      ⟨.l 27, .l (.cal 93), [.l 24, .l 25, .l 26], none⟩])
    .ret)
    .skip))
  (.seq
  (.seq
  (.reg [⟨.l 28, .p .mv, [.v 3], none⟩,
    ⟨.v 29, .p (.bin .eql), [.l 28, .k (.m (.i .i64 0))], none⟩])
  (.ite (.v 29)
    (.seq
    (.reg [⟨.l 30, .p .mv, [.v 0], none⟩,
      ⟨.l 31, .p .mv, [.v 1], none⟩,
      ⟨.l 32, .p .mv, [.v 2], none⟩,
      ⟨.l 33, .l (.cal 94), [.l 30, .l 31, .l 32], none⟩])
    .ret)
    .skip))
  (.seq
  (.seq
  (.reg [⟨.l 34, .p .mv, [.v 8], none⟩,
    ⟨.v 35, .p (.un .not), [.l 34], none⟩])
  (.ite (.v 35)
    (.seq
    (.reg [⟨.l 36, .p .mv, [.v 0], none⟩,
      ⟨.l 37, .p .mv, [.v 1], none⟩,
      ⟨.l 38, .p .mv, [.v 2], none⟩,
      ⟨.l 39, .l (.cal 95), [.l 36, .l 37, .l 38], none⟩])
    (.reg [⟨.l 40, .p .mv, [.v 3], none⟩,
      ⟨.l 41, .p (.bin .sub), [.l 40, .k (.m (.i .i64 1))], none⟩,
      ⟨.v 3, .p .mv, [.l 41], none⟩]))
    .skip))
  (.seq
  (.reg [⟨.l 43, .p .mv, [.v 0], none⟩,
    ⟨.l 44, .p .mv, [.v 1], none⟩,
    ⟨.l 45, .p .mv, [.v 2], none⟩,
    ⟨.l 46, .l (.cal 96), [.l 43, .l 44, .l 45], none⟩,
    ⟨.l 42, .p .mv, [.l 46], none⟩,
    ⟨.l 47, .p (.ext 0), [.l 42], none⟩,
    ⟨.l 48, .p (.ext 1), [.l 42], none⟩,
    ⟨.v 11, .p .mv, [.l 47], none⟩,
    ⟨.v 12, .p .mv, [.l 48], none⟩])
  (.seq
  (.seq
  (.reg [⟨.l 49, .p .mv, [.v 12], none⟩,
    ⟨.v 50, .p (.bin .eql), [.l 49, .k (.m (.i .i64 2))], none⟩])
  (.ite (.v 50)
    (.seq
    (.reg [⟨.l 51, .p .mv, [.v 0], none⟩,
      ⟨.l 52, .p .mv, [.v 1], none⟩,
      ⟨.l 53, .p .mv, [.v 2], none⟩,
      ⟨.l 54, .l (.cal 97), [.l 51, .l 52, .l 53], none⟩])
    (.seq
    (.reg [⟨.l 55, .p .mv, [.v 2], none⟩,
      ⟨.l 56, .p (.bin .sub), [.l 55, .k (.m (.i .i64 1))], none⟩,
      ⟨.l 57, .p .mv, [.v 11], none⟩,
      ⟨.l 58, .p .mv, [.v 1], none⟩,
      ⟨.l 59, .p (.bin .sub), [.l 57, .l 58], none⟩,
      ⟨.l 60, .p (.bin .sub), [.l 56, .l 59], none⟩,
      ⟨.v 11, .p .mv, [.l 60], none⟩])
    (.reg [⟨.v 12, .p .mv, [.k (.m (.i .i64 1))], none⟩])))
    .skip))
  (.seq
  (.seq
  (.reg [⟨.l 61, .p .mv, [.v 8], none⟩,
    ⟨.l 62, .p .mv, [.l 61], none⟩,
    ⟨.l 63, .p .mv, [.v 9], some (.l 62, true)⟩,
    ⟨.l 64, .p .pick, [.l 62, .l 63, .k (.m (.b false))], none⟩,
    ⟨.l 65, .p .mv, [.l 64], none⟩,
    ⟨.l 66, .p .mv, [.v 12], some (.l 65, true)⟩,
    ⟨.l 67, .p (.bin .eql), [.l 66, .k (.m (.i .i64 1))], some (.l 65, true)⟩,
    ⟨.v 68, .p .pick, [.l 65, .l 67, .k (.m (.b false))], none⟩])
  (.ite (.v 68)
    (.seq
    (.reg [⟨.l 69, .p .mv, [.v 0], none⟩,
      ⟨.l 70, .p .mv, [.v 1], none⟩,
      ⟨.l 71, .p .mv, [.v 2], none⟩,
      ⟨.v 72, .l (.cal 98), [.l 69, .l 70, .l 71], none⟩])
    (.ite (.v 72)
      .ret
      .skip))
    .skip))
  (.seq
  (.seq
  (.reg [⟨.l 73, .p .mv, [.v 1], none⟩,
    ⟨.l 74, .p (.bin .gtr), [.l 73, .k (.m (.i .i64 0))], none⟩,
    ⟨.l 75, .p .mv, [.l 74], none⟩,
    ⟨.l 76, .p .mv, [.v 0], some (.l 75, true)⟩,
    ⟨.l 77, .p .mv, [.v 1], some (.l 75, true)⟩,
    ⟨.l 78, .p (.bin .sub), [.l 77, .k (.m (.i .i64 1))], some (.l 75, true)⟩,
    ⟨.l 79, .p (.ixa 1), [.l 76, .l 78], some (.l 75, true)⟩,
    ⟨.l 80, .r (.ld false 1), [.l 79], some (.l 75, true)⟩,
    ⟨.l 81, .p .mv, [.v 0], some (.l 75, true)⟩,
    ⟨.l 82, .p .mv, [.v 11], some (.l 75, true)⟩,
    ⟨.l 83, .p (.ixa 1), [.l 81, .l 82], some (.l 75, true)⟩,
    ⟨.l 84, .r (.ld false 1), [.l 83], some (.l 75, true)⟩,
    ⟨.l 85, .l (.cal 99), [.l 80, .l 84], some (.l 75, true)⟩,
    ⟨.l 86, .p (.un .not), [.l 85], some (.l 75, true)⟩,
    ⟨.v 87, .p .pick, [.l 75, .l 86, .k (.m (.b false))], none⟩])
  (.ite (.v 87)
    (.seq
    (.reg [⟨.l 88, .p .mv, [.v 0], none⟩,
      ⟨.l 89, .p .mv, [.v 1], none⟩,
      ⟨.l 90, .p .mv, [.v 2], none⟩,
      ⟨.l 91, .p .mv, [.v 11], none⟩,
      ⟨.l 92, .l (.cal 100), [.l 88, .l 89, .l 90, .l 91], none⟩,
      ⟨.v 13, .p .mv, [.l 92], none⟩])
    (.seq
    (.reg [⟨.l 93, .p .mv, [.v 13], none⟩,
      ⟨.v 1, .p .mv, [.l 93], none⟩])
    (.ex 1)))
    .skip))
  (.seq
  (.reg [⟨.l 95, .p .mv, [.v 0], none⟩,
    ⟨.l 96, .p .mv, [.v 1], none⟩,
    ⟨.l 97, .p .mv, [.v 2], none⟩,
    ⟨.l 98, .p .mv, [.v 11], none⟩,
    ⟨.l 99, .l (.cal 101), [.l 95, .l 96, .l 97, .l 98], none⟩,
    ⟨.l 94, .p .mv, [.l 99], none⟩,
    ⟨.l 100, .p (.ext 0), [.l 94], none⟩,
    ⟨.l 101, .p (.ext 1), [.l 94], none⟩,
    ⟨.v 14, .p .mv, [.l 100], none⟩,
    ⟨.v 15, .p .mv, [.l 101], none⟩])
  (.seq
  (.reg [⟨.l 102, .p .mv, [.v 15], none⟩,
    ⟨.v 9, .p .mv, [.l 102], none⟩])
  (.seq
  (.reg [⟨.l 103, .p .mv, [.v 14], none⟩,
    ⟨.l 104, .p .mv, [.v 1], none⟩,
    ⟨.l 105, .p (.bin .sub), [.l 103, .l 104], none⟩,
    ⟨.l 106, .p .mv, [.v 2], none⟩,
    ⟨.l 107, .p .mv, [.v 14], none⟩,
    ⟨.l 108, .p (.bin .sub), [.l 106, .l 107], none⟩,
    ⟨.v 16, .p .mv, [.l 105], none⟩,
    ⟨.v 17, .p .mv, [.l 108], none⟩])
  (.seq
  (.reg [⟨.l 109, .p .mv, [.v 10], none⟩,
    ⟨.l 110, .p (.bin .quo), [.l 109, .k (.m (.i .i64 8))], none⟩,
    ⟨.v 18, .p .mv, [.l 110], none⟩])
  (.seq
  (.reg [⟨.l 111, .p .mv, [.v 16], none⟩,
    ⟨.l 112, .p .mv, [.v 17], none⟩,
    ⟨.v 113, .p (.bin .lss), [.l 111, .l 112], none⟩])
  (.ite (.v 113)
    (.seq
    (.reg [⟨.l 114, .p .mv, [.v 16], none⟩,
      ⟨.l 115, .p .mv, [.v 18], none⟩,
      ⟨.l 116, .p (.bin .geq), [.l 114, .l 115], none⟩,
      ⟨.v 8, .p .mv, [.l 116], none⟩])
    (.seq
    (.reg [⟨.l 117, .p .mv, [.v 0], none⟩,
      ⟨.l 118, .p .mv, [.v 1], none⟩,
      ⟨.l 119, .p .mv, [.v 14], none⟩,
      ⟨.l 120, .p .mv, [.v 3], none⟩,
      ⟨.l 121, .l (.cal 67), [.l 117, .l 118, .l 119, .l 120], none⟩])
    (.reg [⟨.l 122, .p .mv, [.v 14], none⟩,
      ⟨.l 123, .p (.bin .add), [.l 122, .k (.m (.i .i64 1))], none⟩,
      ⟨.v 1, .p .mv, [.l 123], none⟩])))
    (.seq
    (.reg [⟨.l 124, .p .mv, [.v 17], none⟩,
      ⟨.l 125, .p .mv, [.v 18], none⟩,
      ⟨.l 126, .p (.bin .geq), [.l 124, .l 125], none⟩,
      ⟨.v 8, .p .mv, [.l 126], none⟩])
    (.seq
    (.reg [⟨.l 127, .p .mv, [.v 0], none⟩,
      ⟨.l 128, .p .mv, [.v 14], none⟩,
      ⟨.l 129, .p (.bin .add), [.l 128, .k (.m (.i .i64 1))], none⟩,
      ⟨.l 130, .p .mv, [.v 2], none⟩,
      ⟨.l 131, .p .mv, [.v 3], none⟩,
      ⟨.l 132, .l (.cal 67), [.l 127, .l 129, .l 130, .l 131], none⟩])
    (.reg [⟨.l 133, .p .mv, [.v 14], none⟩,
      ⟨.v 2, .p .mv, [.l 133], none⟩]))))))))))))))))))
def c67_L0 : C := .loop [10, 11, 12, 13, 14, 15, 16, 17, 18, 23, 29, 35, 50, 68, 72, 87, 113] c67_B0
def c67 : F := ⟨4, [],
  (.seq
  (.reg [⟨.v 8, .p .mv, [.k (.m (.b true))], none⟩])
  (.seq
  (.reg [⟨.v 9, .p .mv, [.k (.m (.b true))], none⟩])
  (.blk 0
  c67_L0)))⟩

/- internal/strconv.Itoa -/
def c68 : F := ⟨1, [.t 2],
  (.seq
  (.reg [⟨.v 2, .p .mv, [.k (.m (.s []))], none⟩])
  (.seq
  (.reg [⟨.l 3, .p .mv, [.v 0], none⟩,
    ⟨.l 4, .l (.cal 102), [.l 3, .k (.m (.i .i64 10))], none⟩,
    ⟨.v 2, .p .mv, [.l 4], none⟩])
  .ret))⟩

/- internal/strconv.AppendInt -/
def c69 : F := ⟨3, [.t 6],
  (.seq
  (.reg [⟨.v 6, .p .mv, [.k (.m (.nl 4))], none⟩])
  (.seq
  (.reg [⟨.l 8, .p .mv, [.v 1], none⟩,
    ⟨.l 9, .p (.cv .u64), [.l 8], none⟩,
    ⟨.v 7, .p .mv, [.l 9], none⟩])
  (.seq
  (.seq
  (.reg [⟨.l 10, .p .mv, [.v 1], none⟩,
    ⟨.v 11, .p (.bin .lss), [.l 10, .k (.m (.i .i64 0))], none⟩])
  (.ite (.v 11)
    (.seq
    (.reg [⟨.l 12, .p .mv, [.v 0], none⟩,
      ⟨.l 13, .p (.bsl 1 [.m (.i .u8 0)] 1 [0]), [.k (.m (.i .u8 45))], none⟩,
      ⟨.l 14, .l (.app 5 1 1), [.l 12, .l 13], none⟩,
      ⟨.v 0, .p .mv, [.l 14], none⟩])
    (.reg [⟨.l 15, .p .mv, [.v 7], none⟩,
      ⟨.l 16, .p (.un .neg), [.l 15], none⟩,
      ⟨.v 7, .p .mv, [.l 16], none⟩]))
    .skip))
  (.seq
  (.reg [⟨.l 17, .p .mv, [.v 0], none⟩,
    ⟨.l 18, .p .mv, [.v 7], none⟩,
    ⟨.l 19, .p .mv, [.v 2], none⟩,
    ⟨.l 20, .l (.cal 103), [.l 17, .l 18, .l 19], none⟩,
    ⟨.v 6, .p .mv, [.l 20], none⟩])
  .ret))))⟩

/- strings.SplitSeq -/
def c70 : F := ⟨2, [.t 4],
  (.seq
  (.reg [⟨.v 4, .p .mv, [.k (.m (.nl 2))], none⟩])
  (.seq
  (.reg [⟨.l 5, .p .mv, [.v 0], none⟩,
    ⟨.l 6, .p .mv, [.v 1], none⟩,
    ⟨.l 7, .l (.cal 104), [.l 5, .l 6, .k (.m (.i .i64 0))], none⟩,
    ⟨.v 4, .p .mv, [.l 7], none⟩])
  .ret))⟩

/- strings.HasPrefix -/
def c71 : F := ⟨2, [.t 4],
  (.seq
  (.reg [⟨.v 4, .p .mv, [.k (.m (.b false))], none⟩])
  (.seq
  (.reg [⟨.l 5, .p .mv, [.v 0], none⟩,
    ⟨.l 6, .p .mv, [.v 1], none⟩,
    ⟨.l 7, .l (.cal 105), [.l 5, .l 6], none⟩,
    ⟨.v 4, .p .mv, [.l 7], none⟩])
  .ret))⟩

/- strings.TrimPrefix -/
def c72 : F := ⟨2, [.t 4],
  (.seq
  (.reg [⟨.v 4, .p .mv, [.k (.m (.s []))], none⟩])
  (.seq
  (.reg [⟨.l 5, .p .mv, [.v 0], none⟩,
    ⟨.l 6, .p .mv, [.v 1], none⟩,
    ⟨.l 7, .l (.cal 106), [.l 5, .l 6], none⟩,
    ⟨.v 4, .p .mv, [.l 7], none⟩])
  .ret))⟩

/- strconv.Atoi -/
def c73 : F := ⟨1, [.t 2, .t 3],
  (.seq
  (.reg [⟨.v 2, .p .mv, [.k (.m (.i .i64 0))], none⟩,
    ⟨.v 3, .p .mv, [.k (.m (.nl 3))], none⟩])
  (.seq
  (.reg [⟨.l 7, .p .mv, [.v 0], none⟩,
    ⟨.l 8, .l (.cal 107), [.l 7], none⟩,
    ⟨.l 6, .p .mv, [.l 8], none⟩,
    ⟨.l 9, .p (.ext 0), [.l 6], none⟩,
    ⟨.l 10, .p (.ext 1), [.l 6], none⟩,
    ⟨.v 4, .p .mv, [.l 9], none⟩,
    ⟨.v 5, .p .mv, [.l 10], none⟩])
  (.seq
  (.seq
  (.reg [⟨.l 11, .p .mv, [.v 5], none⟩,
    ⟨.v 12, .p (.eqn true 3), [.l 11], none⟩])
  (.ite (.v 12)
    (.seq
    (.reg [⟨.l 13, .p .mv, [.v 4], none⟩,
      ⟨.l 14, .p .mv, [.v 0], none⟩,
      ⟨.l 15, .p .mv, [.v 5], none⟩,
      ⟨.l 16, .l (.cal 108), [.k (.m (.s [65, 116, 111, 105])), .l 14, .k (.m (.i .i64 0)), .k (.m (.i .i64 0)), .l 15], none⟩,
      ⟨.v 2, .p .mv, [.l 13], none⟩,
      ⟨.v 3, .p .mv, [.l 16], none⟩])
    .ret)
    .skip))
  (.seq
  (.reg [⟨.l 17, .p .mv, [.v 4], none⟩,
    ⟨.v 2, .p .mv, [.l 17], none⟩,
    ⟨.v 3, .p .mv, [.k (.m (.nl 3))], none⟩])
  .ret))))⟩

/- slices.insertionSortCmpFunc[int] -/
def c74_B0 : C :=
  (.seq
  (.seq
  (.reg [⟨.l 18, .p .mv, [.v 9], none⟩,
    ⟨.l 19, .p .mv, [.v 1], none⟩,
    ⟨.l 20, .p (.bin .gtr), [.l 18, .l 19], none⟩,
    ⟨.l 21, .p .mv, [.l 20], none⟩,
    ⟨.l 22, .p .mv, [.v 3], some (.l 21, true)⟩,
    ⟨.l 23, .p .mv, [.v 0], some (.l 21, true)⟩,
    ⟨.l 24, .p .mv, [.v 9], some (.l 21, true)⟩,
    ⟨.l 25, .p (.ixa 1), [.l 23, .l 24], some (.l 21, true)⟩,
    ⟨.l 26, .r (.ld false 1), [.l 25], some (.l 21, true)⟩,
    ⟨.l 27, .p .mv, [.v 0], some (.l 21, true)⟩,
    ⟨.l 28, .p .mv, [.v 9], some (.l 21, true)⟩,
    ⟨.l 29, .p (.bin .sub), [.l 28, .k (.m (.i .i64 1))], some (.l 21, true)⟩,
    ⟨.l 30, .p (.ixa 1), [.l 27, .l 29], some (.l 21, true)⟩,
    ⟨.l 31, .r (.ld false 1), [.l 30], some (.l 21, true)⟩,
    ⟨.l 32, .l .cav, [.l 22, .l 26, .l 31], some (.l 21, true)⟩,
    ⟨.l 33, .p (.bin .lss), [.l 32, .k (.m (.i .i64 0))], some (.l 21, true)⟩,
    ⟨.v 34, .p .pick, [.l 21, .l 33, .k (.m (.b false))], none⟩])
  (.ite (.v 34)
    .skip
    (.ex 2)))
  (.seq
  (.blk 3
  (.reg [⟨.l 37, .p .mv, [.v 0], none⟩,
    ⟨.l 38, .p .mv, [.v 9], none⟩,
    ⟨.l 39, .p .mv, [.v 0], none⟩,
    ⟨.l 40, .p .mv, [.v 9], none⟩,
    ⟨.l 41, .p (.bin .sub), [.l 40, .k (.m (.i .i64 1))], none⟩,
    ⟨.l 42, .p .mv, [.v 0], none⟩,
    ⟨.l 43, .p .mv, [.v 9], none⟩,
    ⟨.l 44, .p (.bin .sub), [.l 43, .k (.m (.i .i64 1))], none⟩,
    ⟨.l 45, .p (.ixa 1), [.l 42, .l 44], none⟩,
    ⟨.l 46, .r (.ld false 1), [.l 45], none⟩,
    ⟨.l 47, .p .mv, [.v 0], none⟩,
    ⟨.l 48, .p .mv, [.v 9], none⟩,
    ⟨.l 49, .p (.ixa 1), [.l 47, .l 48], none⟩,
    ⟨.l 50, .r (.ld false 1), [.l 49], none⟩,
    ⟨.l 51, .p (.ixa 1), [.l 37, .l 38], none⟩,
    ⟨.no, .l (.st 1), [.l 51, .l 46], none⟩,
    ⟨.l 52, .p (.ixa 1), [.l 39, .l 41], none⟩,
    ⟨.no, .l (.st 1), [.l 52, .l 50], none⟩]))
  (.reg [⟨.l 35, .p .mv, [.v 9], none⟩,
    ⟨.l 36, .p (.bin .sub), [.l 35, .k (.m (.i .i64 1))], none⟩,
    ⟨.v 9, .p .mv, [.l 36], none⟩])))
def c74_L0 : C := .loop [14, 34] c74_B0
def c74_B1 : C :=
  (.seq
  (.seq
  (.reg [⟨.l 12, .p .mv, [.v 8], none⟩,
    ⟨.l 13, .p .mv, [.v 2], none⟩,
    ⟨.v 14, .p (.bin .lss), [.l 12, .l 13], none⟩])
  (.ite (.v 14)
    .skip
    (.ex 0)))
  (.seq
  (.blk 1
  (.seq
  (.reg [⟨.l 17, .p .mv, [.v 8], none⟩,
    ⟨.v 9, .p .mv, [.l 17], none⟩])
  (.blk 2
  c74_L0)))
  (.reg [⟨.l 15, .p .mv, [.v 8], none⟩,
    ⟨.l 16, .p (.bin .add), [.l 15, .k (.m (.i .i64 1))], none⟩,
    ⟨.v 8, .p .mv, [.l 16], none⟩])))
def c74_L1 : C := .loop [9, 34] c74_B1
def c74 : F := ⟨4, [],
  (.seq
  (.reg [⟨.l 10, .p .mv, [.v 1], none⟩,
    ⟨.l 11, .p (.bin .add), [.l 10, .k (.m (.i .i64 1))], none⟩,
    ⟨.v 8, .p .mv, [.l 11], none⟩])
  (.blk 0
  c74_L1))⟩

/- math/bits.Len32 -/
def c82 : F := ⟨1, [.t 2],
  (.seq
  (.reg [⟨.v 2, .p .mv, [.k (.m (.i .i64 0))], none⟩])
  (.seq
  (.seq
  (.reg [⟨.l 3, .p .mv, [.v 0], none⟩,
    ⟨.v 4, .p (.bin .geq), [.l 3, .k (.m (.i .u32 65536))], none⟩])
  (.ite (.v 4)
    (.seq
    (.reg [⟨.l 5, .p .mv, [.v 0], none⟩,
      ⟨.l 6, .p (.bin .shr), [.l 5, .k (.m (.i .u64 16))], none⟩,
      ⟨.v 0, .p .mv, [.l 6], none⟩])
    (.reg [⟨.v 2, .p .mv, [.k (.m (.i .i64 16))], none⟩]))
    .skip))
  (.seq
  (.seq
  (.reg [⟨.l 7, .p .mv, [.v 0], none⟩,
    ⟨.v 8, .p (.bin .geq), [.l 7, .k (.m (.i .u32 256))], none⟩])
  (.ite (.v 8)
    (.seq
    (.reg [⟨.l 9, .p .mv, [.v 0], none⟩,
      ⟨.l 10, .p (.bin .shr), [.l 9, .k (.m (.i .u64 8))], none⟩,
      ⟨.v 0, .p .mv, [.l 10], none⟩])
    (.reg [⟨.l 11, .p .mv, [.v 2], none⟩,
      ⟨.l 12, .p (.bin .add), [.l 11, .k (.m (.i .i64 8))], none⟩,
      ⟨.v 2, .p .mv, [.l 12], none⟩]))
    .skip))
  (.seq
  (.reg [⟨.l 13, .p .mv, [.v 2], none⟩,
    ⟨.l 14, .p .mv, [.v 0], none⟩,
    ⟨.l 15, .p (.cv .u8), [.l 14], none⟩,
    ⟨.l 16, .p .ixs, [.k (.m (.s [0, 1, 2, 2, 3, 3, 3, 3, 4, 4, 4, 4, 4, 4, 4, 4, 5, 5, 5, 5, 5, 5, 5, 5, 5, 5, 5, 5, 5, 5, 5, 5, 6, 6, 6, 6, 6, 6, 6, 6, 6, 6, 6, 6, 6, 6, 6, 6, 6, 6, 6, 6, 6, 6, 6, 6, 6, 6, 6, 6, 6, 6, 6, 6, 7, 7, 7, 7, 7, 7, 7, 7, 7, 7, 7, 7, 7, 7, 7, 7, 7, 7, 7, 7, 7, 7, 7, 7, 7, 7, 7, 7, 7, 7, 7, 7, 7, 7, 7, 7, 7, 7, 7, 7, 7, 7, 7, 7, 7, 7, 7, 7, 7, 7, 7, 7, 7, 7, 7, 7, 7, 7, 7, 7, 7, 7, 7, 7, 8, 8, 8, 8, 8, 8, 8, 8, 8, 8, 8, 8, 8, 8, 8, 8, 8, 8, 8, 8, 8, 8, 8, 8, 8, 8, 8, 8, 8, 8, 8, 8, 8, 8, 8, 8, 8, 8, 8, 8, 8, 8, 8, 8, 8, 8, 8, 8, 8, 8, 8, 8, 8, 8, 8, 8, 8, 8, 8, 8, 8, 8, 8, 8, 8, 8, 8, 8, 8, 8, 8, 8, 8, 8, 8, 8, 8, 8, 8, 8, 8, 8, 8, 8, 8, 8, 8, 8, 8, 8, 8, 8, 8, 8, 8, 8, 8, 8, 8, 8, 8, 8, 8, 8, 8, 8, 8, 8, 8, 8, 8, 8, 8, 8, 8, 8, 8, 8, 8, 8, 8, 8, 8, 8, 8, 8, 8, 8])), .l 15], none⟩,
    ⟨.l 17, .p (.cv .i64), [.l 16], none⟩,
    ⟨.l 18, .p (.bin .add), [.l 13, .l 17], none⟩,
    ⟨.v 2, .p .mv, [.l 18], none⟩])
  .ret))))⟩

/- math/bits.Len64 -/
def c83 : F := ⟨1, [.t 2],
  (.seq
  (.reg [⟨.v 2, .p .mv, [.k (.m (.i .i64 0))], none⟩])
  (.seq
  (.seq
  (.reg [⟨.l 3, .p .mv, [.v 0], none⟩,
    ⟨.v 4, .p (.bin .geq), [.l 3, .k (.m (.i .u64 4294967296))], none⟩])
  (.ite (.v 4)
    (.seq
    (.reg [⟨.l 5, .p .mv, [.v 0], none⟩,
      ⟨.l 6, .p (.bin .shr), [.l 5, .k (.m (.i .u64 32))], none⟩,
      ⟨.v 0, .p .mv, [.l 6], none⟩])
    (.reg [⟨.v 2, .p .mv, [.k (.m (.i .i64 32))], none⟩]))
    .skip))
  (.seq
  (.seq
  (.reg [⟨.l 7, .p .mv, [.v 0], none⟩,
    ⟨.v 8, .p (.bin .geq), [.l 7, .k (.m (.i .u64 65536))], none⟩])
  (.ite (.v 8)
    (.seq
    (.reg [⟨.l 9, .p .mv, [.v 0], none⟩,
      ⟨.l 10, .p (.bin .shr), [.l 9, .k (.m (.i .u64 16))], none⟩,
      ⟨.v 0, .p .mv, [.l 10], none⟩])
    (.reg [⟨.l 11, .p .mv, [.v 2], none⟩,
      ⟨.l 12, .p (.bin .add), [.l 11, .k (.m (.i .i64 16))], none⟩,
      ⟨.v 2, .p .mv, [.l 12], none⟩]))
    .skip))
  (.seq
  (.seq
  (.reg [⟨.l 13, .p .mv, [.v 0], none⟩,
    ⟨.v 14, .p (.bin .geq), [.l 13, .k (.m (.i .u64 256))], none⟩])
  (.ite (.v 14)
    (.seq
    (.reg [⟨.l 15, .p .mv, [.v 0], none⟩,
      ⟨.l 16, .p (.bin .shr), [.l 15, .k (.m (.i .u64 8))], none⟩,
      ⟨.v 0, .p .mv, [.l 16], none⟩])
    (.reg [⟨.l 17, .p .mv, [.v 2], none⟩,
      ⟨.l 18, .p (.bin .add), [.l 17, .k (.m (.i .i64 8))], none⟩,
      ⟨.v 2, .p .mv, [.l 18], none⟩]))
    .skip))
  (.seq
  (.reg [⟨.l 19, .p .mv, [.v 2], none⟩,
    ⟨.l 20, .p .mv, [.v 0], none⟩,
    ⟨.l 21, .p (.cv .u8), [.l 20], none⟩,
    ⟨.l 22, .p .ixs, [.k (.m (.s [0, 1, 2, 2, 3, 3, 3, 3, 4, 4, 4, 4, 4, 4, 4, 4, 5, 5, 5, 5, 5, 5, 5, 5, 5, 5, 5, 5, 5, 5, 5, 5, 6, 6, 6, 6, 6, 6, 6, 6, 6, 6, 6, 6, 6, 6, 6, 6, 6, 6, 6, 6, 6, 6, 6, 6, 6, 6, 6, 6, 6, 6, 6, 6, 7, 7, 7, 7, 7, 7, 7, 7, 7, 7, 7, 7, 7, 7, 7, 7, 7, 7, 7, 7, 7, 7, 7, 7, 7, 7, 7, 7, 7, 7, 7, 7, 7, 7, 7, 7, 7, 7, 7, 7, 7, 7, 7, 7, 7, 7, 7, 7, 7, 7, 7, 7, 7, 7, 7, 7, 7, 7, 7, 7, 7, 7, 7, 7, 8, 8, 8, 8, 8, 8, 8, 8, 8, 8, 8, 8, 8, 8, 8, 8, 8, 8, 8, 8, 8, 8, 8, 8, 8, 8, 8, 8, 8, 8, 8, 8, 8, 8, 8, 8, 8, 8, 8, 8, 8, 8, 8, 8, 8, 8, 8, 8, 8, 8, 8, 8, 8, 8, 8, 8, 8, 8, 8, 8, 8, 8, 8, 8, 8, 8, 8, 8, 8, 8, 8, 8, 8, 8, 8, 8, 8, 8, 8, 8, 8, 8, 8, 8, 8, 8, 8, 8, 8, 8, 8, 8, 8, 8, 8, 8, 8, 8, 8, 8, 8, 8, 8, 8, 8, 8, 8, 8, 8, 8, 8, 8, 8, 8, 8, 8, 8, 8, 8, 8, 8, 8, 8, 8, 8, 8, 8, 8])), .l 21], none⟩,
    ⟨.l 23, .p (.cv .i64), [.l 22], none⟩,
    ⟨.l 24, .p (.bin .add), [.l 19, .l 23], none⟩,
    ⟨.v 2, .p .mv, [.l 24], none⟩])
  .ret)))))⟩

/- cmp.isNaN[int] -/
def c84 : F := ⟨1, [.t 2],
  (.seq
  (.reg [⟨.v 2, .p .mv, [.k (.m (.b false))], none⟩])
  (.seq
  (.reg [⟨.l 3, .p .mv, [.v 0], none⟩,
    ⟨.l 4, .p .mv, [.v 0], none⟩,
    ⟨.l 5, .p (.bin .neq), [.l 3, .l 4], none⟩,
    ⟨.v 2, .p .mv, [.l 5], none⟩])
  .ret))⟩

/- slices.insertionSortCmpFunc[[]int] -/
def c85_B0 : C :=
  (.seq
  (.seq
  (.reg [⟨.l 18, .p .mv, [.v 9], none⟩,
    ⟨.l 19, .p .mv, [.v 1], none⟩,
    ⟨.l 20, .p (.bin .gtr), [.l 18, .l 19], none⟩,
    ⟨.l 21, .p .mv, [.l 20], none⟩,
    ⟨.l 22, .p .mv, [.v 3], some (.l 21, true)⟩,
    ⟨.l 23, .p .mv, [.v 0], some (.l 21, true)⟩,
    ⟨.l 24, .p .mv, [.v 9], some (.l 21, true)⟩,
    ⟨.l 25, .p (.ixa 1), [.l 23, .l 24], some (.l 21, true)⟩,
    ⟨.l 26, .r (.ld false 1), [.l 25], some (.l 21, true)⟩,
    ⟨.l 27, .p .mv, [.v 0], some (.l 21, true)⟩,
    ⟨.l 28, .p .mv, [.v 9], some (.l 21, true)⟩,
    ⟨.l 29, .p (.bin .sub), [.l 28, .k (.m (.i .i64 1))], some (.l 21, true)⟩,
    ⟨.l 30, .p (.ixa 1), [.l 27, .l 29], some (.l 21, true)⟩,
    ⟨.l 31, .r (.ld false 1), [.l 30], some (.l 21, true)⟩,
    ⟨.l 32, .l .cav, [.l 22, .l 26, .l 31], some (.l 21, true)⟩,
    ⟨.l 33, .p (.bin .lss), [.l 32, .k (.m (.i .i64 0))], some (.l 21, true)⟩,
    ⟨.v 34, .p .pick, [.l 21, .l 33, .k (.m (.b false))], none⟩])
  (.ite (.v 34)
    .skip
    (.ex 2)))
  (.seq
  (.blk 3
  (.reg [⟨.l 37, .p .mv, [.v 0], none⟩,
    ⟨.l 38, .p .mv, [.v 9], none⟩,
    ⟨.l 39, .p .mv, [.v 0], none⟩,
    ⟨.l 40, .p .mv, [.v 9], none⟩,
    ⟨.l 41, .p (.bin .sub), [.l 40, .k (.m (.i .i64 1))], none⟩,
    ⟨.l 42, .p .mv, [.v 0], none⟩,
    ⟨.l 43, .p .mv, [.v 9], none⟩,
    ⟨.l 44, .p (.bin .sub), [.l 43, .k (.m (.i .i64 1))], none⟩,
    ⟨.l 45, .p (.ixa 1), [.l 42, .l 44], none⟩,
    ⟨.l 46, .r (.ld false 1), [.l 45], none⟩,
    ⟨.l 47, .p .mv, [.v 0], none⟩,
    ⟨.l 48, .p .mv, [.v 9], none⟩,
    ⟨.l 49, .p (.ixa 1), [.l 47, .l 48], none⟩,
    ⟨.l 50, .r (.ld false 1), [.l 49], none⟩,
    ⟨.l 51, .p (.ixa 1), [.l 37, .l 38], none⟩,
    ⟨.no, .l (.st 1), [.l 51, .l 46], none⟩,
    ⟨.l 52, .p (.ixa 1), [.l 39, .l 41], none⟩,
    ⟨.no, .l (.st 1), [.l 52, .l 50], none⟩]))
  (.reg [⟨.l 35, .p .mv, [.v 9], none⟩,
    ⟨.l 36, .p (.bin .sub), [.l 35, .k (.m (.i .i64 1))], none⟩,
    ⟨.v 9, .p .mv, [.l 36], none⟩])))
def c85_L0 : C := .loop [14, 34] c85_B0
def c85_B1 : C :=
  (.seq
  (.seq
  (.reg [⟨.l 12, .p .mv, [.v 8], none⟩,
    ⟨.l 13, .p .mv, [.v 2], none⟩,
    ⟨.v 14, .p (.bin .lss), [.l 12, .l 13], none⟩])
  (.ite (.v 14)
    .skip
    (.ex 0)))
  (.seq
  (.blk 1
  (.seq
  (.reg [⟨.l 17, .p .mv, [.v 8], none⟩,
    ⟨.v 9, .p .mv, [.l 17], none⟩])
  (.blk 2
  c85_L0)))
  (.reg [⟨.l 15, .p .mv, [.v 8], none⟩,
    ⟨.l 16, .p (.bin .add), [.l 15, .k (.m (.i .i64 1))], none⟩,
    ⟨.v 8, .p .mv, [.l 16], none⟩])))
def c85_L1 : C := .loop [9, 34] c85_B1
def c85 : F := ⟨4, [],
  (.seq
  (.reg [⟨.l 10, .p .mv, [.v 1], none⟩,
    ⟨.l 11, .p (.bin .add), [.l 10, .k (.m (.i .i64 1))], none⟩,
    ⟨.v 8, .p .mv, [.l 11], none⟩])
  (.blk 0
  c85_L1))⟩

/- slices.insertionSortOrdered[int] -/
def c93_B0 : C :=
  (.seq
  (.seq
  (.reg [⟨.l 16, .p .mv, [.v 7], none⟩,
    ⟨.l 17, .p .mv, [.v 1], none⟩,
    ⟨.l 18, .p (.bin .gtr), [.l 16, .l 17], none⟩,
    ⟨.l 19, .p .mv, [.l 18], none⟩,
    ⟨.l 20, .p .mv, [.v 0], some (.l 19, true)⟩,
    ⟨.l 21, .p .mv, [.v 7], some (.l 19, true)⟩,
    ⟨.l 22, .p (.ixa 1), [.l 20, .l 21], some (.l 19, true)⟩,
    ⟨.l 23, .r (.ld false 1), [.l 22], some (.l 19, true)⟩,
    ⟨.l 24, .p .mv, [.v 0], some (.l 19, true)⟩,
    ⟨.l 25, .p .mv, [.v 7], some (.l 19, true)⟩,
    ⟨.l 26, .p (.bin .sub), [.l 25, .k (.m (.i .i64 1))], some (.l 19, true)⟩,
    ⟨.l 27, .p (.ixa 1), [.l 24, .l 26], some (.l 19, true)⟩,
    ⟨.l 28, .r (.ld false 1), [.l 27], some (.l 19, true)⟩,
    ⟨.l 29, .l (.cal 99), [.l 23, .l 28], some (.l 19, true)⟩,
    ⟨.v 30, .p .pick, [.l 19, .l 29, .k (.m (.b false))], none⟩])
  (.ite (.v 30)
    .skip
    (.ex 2)))
  (.seq
  (.blk 3
  (.reg [⟨.l 33, .p .mv, [.v 0], none⟩,
    ⟨.l 34, .p .mv, [.v 7], none⟩,
    ⟨.l 35, .p .mv, [.v 0], none⟩,
    ⟨.l 36, .p .mv, [.v 7], none⟩,
    ⟨.l 37, .p (.bin .sub), [.l 36, .k (.m (.i .i64 1))], none⟩,
    ⟨.l 38, .p .mv, [.v 0], none⟩,
    ⟨.l 39, .p .mv, [.v 7], none⟩,
    ⟨.l 40, .p (.bin .sub), [.l 39, .k (.m (.i .i64 1))], none⟩,
    ⟨.l 41, .p (.ixa 1), [.l 38, .l 40], none⟩,
    ⟨.l 42, .r (.ld false 1), [.l 41], none⟩,
    ⟨.l 43, .p .mv, [.v 0], none⟩,
    ⟨.l 44, .p .mv, [.v 7], none⟩,
    ⟨.l 45, .p (.ixa 1), [.l 43, .l 44], none⟩,
    ⟨.l 46, .r (.ld false 1), [.l 45], none⟩,
    ⟨.l 47, .p (.ixa 1), [.l 33, .l 34], none⟩,
    ⟨.no, .l (.st 1), [.l 47, .l 42], none⟩,
    ⟨.l 48, .p (.ixa 1), [.l 35, .l 37], none⟩,
    ⟨.no, .l (.st 1), [.l 48, .l 46], none⟩]))
  (.reg [⟨.l 31, .p .mv, [.v 7], none⟩,
    ⟨.l 32, .p (.bin .sub), [.l 31, .k (.m (.i .i64 1))], none⟩,
    ⟨.v 7, .p .mv, [.l 32], none⟩])))
def c93_L0 : C := .loop [12, 30] c93_B0
def c93_B1 : C :=
  (.seq
  (.seq
  (.reg [⟨.l 10, .p .mv, [.v 6], none⟩,
    ⟨.l 11, .p .mv, [.v 2], none⟩,
    ⟨.v 12, .p (.bin .lss), [.l 10, .l 11], none⟩])
  (.ite (.v 12)
    .skip
    (.ex 0)))
  (.seq
  (.blk 1
  (.seq
  (.reg [⟨.l 15, .p .mv, [.v 6], none⟩,
    ⟨.v 7, .p .mv, [.l 15], none⟩])
  (.blk 2
  c93_L0)))
  (.reg [⟨.l 13, .p .mv, [.v 6], none⟩,
    ⟨.l 14, .p (.bin .add), [.l 13, .k (.m (.i .i64 1))], none⟩,
    ⟨.v 6, .p .mv, [.l 14], none⟩])))
def c93_L1 : C := .loop [7, 30] c93_B1
def c93 : F := ⟨3, [],
  (.seq
  (.reg [⟨.l 8, .p .mv, [.v 1], none⟩,
    ⟨.l 9, .p (.bin .add), [.l 8, .k (.m (.i .i64 1))], none⟩,
    ⟨.v 6, .p .mv, [.l 9], none⟩])
  (.blk 0
  c93_L1))⟩

/- cmp.Less[int] -/
def c99 : F := ⟨2, [.t 4],
  (.seq
  (.reg [⟨.v 4, .p .mv, [.k (.m (.b false))], none⟩])
  (.seq
  (.reg [⟨.l 5, .p .mv, [.v 0], none⟩,
    ⟨.l 6, .l (.cal 84), [.l 5], none⟩,
    ⟨.l 7, .p .mv, [.l 6], none⟩,
    ⟨.l 8, .p .mv, [.v 1], some (.l 7, true)⟩,
    ⟨.l 9, .l (.cal 84), [.l 8], some (.l 7, true)⟩,
    ⟨.l 10, .p (.un .not), [.l 9], some (.l 7, true)⟩,
    ⟨.l 11, .p .pick, [.l 7, .l 10, .k (.m (.b false))], none⟩,
    ⟨.l 12, .p .mv, [.l 11], none⟩,
    ⟨.l 13, .p .mv, [.v 0], some (.l 12, false)⟩,
    ⟨.l 14, .p .mv, [.v 1], some (.l 12, false)⟩,
    ⟨.l 15, .p (.bin .lss), [.l 13, .l 14], some (.l 12, false)⟩,
    ⟨.l 16, .p .pick, [.l 12, .k (.m (.b true)), .l 15], none⟩,
    ⟨.v 4, .p .mv, [.l 16], none⟩])
  .ret))⟩

/- internal/strconv.FormatInt -/
def c102 : F := ⟨2, [.t 4],
  (.seq
  (.reg [⟨.v 4, .p .mv, [.k (.m (.s []))], none⟩])
  (.seq
  (.seq
  (.reg [⟨.l 10, .p .mv, [.v 1], none⟩,
    ⟨.v 11, .p (.bin .eql), [.l 10, .k (.m (.i .i64 10))], none⟩])
  (.ite (.v 11)
    (.seq
    (.seq
    (.reg [⟨.l 12, .p .mv, [.v 0], none⟩,
      ⟨.l 13, .p (.bin .leq), [.k (.m (.i .i64 0)), .l 12], none⟩,
      ⟨.l 14, .p .mv, [.l 13], none⟩,
      ⟨.l 15, .p .mv, [.v 0], some (.l 14, true)⟩,
      ⟨.l 16, .p (.bin .lss), [.l 15, .k (.m (.i .i64 100))], some (.l 14, true)⟩,
      ⟨.v 17, .p .pick, [.l 14, .l 16, .k (.m (.b false))], none⟩])
    (.ite (.v 17)
      (.seq
      (.reg [⟨.l 18, .p .mv, [.v 0], none⟩,
        ⟨.l 19, .l (.cal 120), [.l 18], none⟩,
        ⟨.v 4, .p .mv, [.l 19], none⟩])
      .ret)
      .skip))
    (.seq
    (.reg [⟨.v 5, .l (.als 129 1 24 [.m (.i .u8 0), .m (.i .u8 0), .m (.i .u8 0), .m (.i .u8 0), .m (.i .u8 0), .m (.i .u8 0), .m (.i .u8 0), .m (.i .u8 0), .m (.i .u8 0), .m (.i .u8 0), .m (.i .u8 0), .m (.i .u8 0), .m (.i .u8 0), .m (.i .u8 0), .m (.i .u8 0), .m (.i .u8 0), .m (.i .u8 0), .m (.i .u8 0), .m (.i .u8 0), .m (.i .u8 0), .m (.i .u8 0), .m (.i .u8 0), .m (.i .u8 0), .m (.i .u8 0)]), [], none⟩])
    (.seq
    (.reg [⟨.l 20, .p .mv, [.v 0], none⟩,
      ⟨.l 21, .p (.cv .u64), [.l 20], none⟩,
      ⟨.v 6, .p .mv, [.l 21], none⟩])
    (.seq
    (.seq
    (.reg [⟨.l 22, .p .mv, [.v 0], none⟩,
      ⟨.v 23, .p (.bin .lss), [.l 22, .k (.m (.i .i64 0))], none⟩])
    (.ite (.v 23)
      (.reg [⟨.l 24, .p .mv, [.v 6], none⟩,
        ⟨.l 25, .p (.un .neg), [.l 24], none⟩,
        ⟨.v 6, .p .mv, [.l 25], none⟩])
      .skip))
    (.seq
    (.reg [⟨.l 26, .p .mv, [.v 6], none⟩,
      ⟨.l 27, .l (.cal 121), [.l 26], none⟩,
      ⟨.v 7, .p .mv, [.l 27], none⟩])
    (.seq
    (.reg [⟨.l 28, .p .mv, [.v 7], none⟩,
      ⟨.l 29, .p (.bin .add), [.k (.m (.i .i64 1)), .l 28], none⟩,
      ⟨.l 30, .r (.slcA 24 1 true true false), [.v 5, .k (.m (.i .i64 1)), .l 29], none⟩,
      ⟨.l 31, .p .mv, [.v 6], none⟩,
      ⟨.l 32, .l (.cal 122), [.l 30, .l 31], none⟩])
    (.seq
    (.seq
    (.reg [⟨.l 33, .p .mv, [.v 0], none⟩,
      ⟨.v 34, .p (.bin .lss), [.l 33, .k (.m (.i .i64 0))], none⟩])
    (.ite (.v 34)
      (.seq
      (.reg [⟨.l 35, .p (.ixaA 24 1), [.v 5, .k (.m (.i .i64 0))], none⟩,
        ⟨.no, .l (.st 1), [.l 35, .k (.m (.i .u8 45))], none⟩])
      (.seq
      (.reg [⟨.l 36, .p .mv, [.v 7], none⟩,
        ⟨.l 37, .p (.bin .add), [.k (.m (.i .i64 1)), .l 36], none⟩,
        ⟨.l 38, .r (.slcA 24 1 false true false), [.v 5, .l 37], none⟩,
        ⟨.l 39, .r .b2s, [.l 38], none⟩,
        ⟨.v 4, .p .mv, [.l 39], none⟩])
      .ret))
      .skip))
    (.seq
    (.reg [⟨.l 40, .p .mv, [.v 7], none⟩,
      ⟨.l 41, .p (.bin .add), [.k (.m (.i .i64 1)), .l 40], none⟩,
      ⟨.l 42, .r (.slcA 24 1 true true false), [.v 5, .k (.m (.i .i64 1)), .l 41], none⟩,
      ⟨.l 43, .r .b2s, [.l 42], none⟩,
      ⟨.v 4, .p .mv, [.l 43], none⟩])
    .ret))))))))
    .skip))
  (.seq
  (.reg [⟨.l 45, .p .mv, [.v 0], none⟩,
    ⟨.l 46, .p (.cv .u64), [.l 45], none⟩,
    ⟨.l 47, .p .mv, [.v 1], none⟩,
    ⟨.l 48, .p .mv, [.v 0], none⟩,
    ⟨.l 49, .p (.bin .lss), [.l 48, .k (.m (.i .i64 0))], none⟩,
    ⟨.l 50, .l (.cal 123), [.k (.m (.nl 4)), .l 46, .l 47, .l 49, .k (.m (.b false))], none⟩,
    ⟨.l 44, .p .mv, [.l 50], none⟩,
    ⟨.l 51, .p (.ext 0), [.l 44], none⟩,
    ⟨.l 52, .p (.ext 1), [.l 44], none⟩,
    ⟨.l 8, .p .mv, [.l 51], none⟩,
    ⟨.v 9, .p .mv, [.l 52], none⟩])
  (.seq
  (.reg [⟨.l 53, .p .mv, [.v 9], none⟩,
    ⟨.v 4, .p .mv, [.l 53], none⟩])
  .ret))))⟩

/- internal/strconv.AppendUint -/
def c103 : F := ⟨3, [.t 6],
  (.seq
  (.reg [⟨.v 6, .p .mv, [.k (.m (.nl 4))], none⟩])
  (.seq
  (.seq
  (.reg [⟨.l 9, .p .mv, [.v 2], none⟩,
    ⟨.v 10, .p (.bin .eql), [.l 9, .k (.m (.i .i64 10))], none⟩])
  (.ite (.v 10)
    (.seq
    (.seq
    (.reg [⟨.l 11, .p .mv, [.v 1], none⟩,
      ⟨.v 12, .p (.bin .lss), [.l 11, .k (.m (.i .u64 100))], none⟩])
    (.ite (.v 12)
      (.seq
      (.reg [⟨.l 13, .p .mv, [.v 0], none⟩,
        ⟨.l 14, .p .mv, [.v 1], none⟩,
        ⟨.l 15, .p (.cv .i64), [.l 14], none⟩,
        ⟨.l 16, .l (.cal 120), [.l 15], none⟩,
        ⟨.l 17, .l (.app 5 1 1), [.l 13, .l 16], none⟩,
        ⟨.v 6, .p .mv, [.l 17], none⟩])
      .ret)
      .skip))
    (.seq
    (.reg [⟨.v 7, .l (.als 129 1 24 [.m (.i .u8 0), .m (.i .u8 0), .m (.i .u8 0), .m (.i .u8 0), .m (.i .u8 0), .m (.i .u8 0), .m (.i .u8 0), .m (.i .u8 0), .m (.i .u8 0), .m (.i .u8 0), .m (.i .u8 0), .m (.i .u8 0), .m (.i .u8 0), .m (.i .u8 0), .m (.i .u8 0), .m (.i .u8 0), .m (.i .u8 0), .m (.i .u8 0), .m (.i .u8 0), .m (.i .u8 0), .m (.i .u8 0), .m (.i .u8 0), .m (.i .u8 0), .m (.i .u8 0)]), [], none⟩])
    (.seq
    (.reg [⟨.l 18, .p .mv, [.v 1], none⟩,
      ⟨.l 19, .l (.cal 121), [.l 18], none⟩,
      ⟨.v 8, .p .mv, [.l 19], none⟩])
    (.seq
    (.reg [⟨.l 20, .p .mv, [.v 8], none⟩,
      ⟨.l 21, .r (.slcA 24 1 false true false), [.v 7, .l 20], none⟩,
      ⟨.l 22, .p .mv, [.v 1], none⟩,
      ⟨.l 23, .l (.cal 122), [.l 21, .l 22], none⟩])
    (.seq
    (.reg [⟨.l 24, .p .mv, [.v 0], none⟩,
      ⟨.l 25, .p .mv, [.v 8], none⟩,
      ⟨.l 26, .r (.slcA 24 1 false true false), [.v 7, .l 25], none⟩,
      ⟨.l 27, .l (.app 5 1 1), [.l 24, .l 26], none⟩,
      ⟨.v 6, .p .mv, [.l 27], none⟩])
    .ret)))))
    .skip))
  (.seq
  (.reg [⟨.l 29, .p .mv, [.v 0], none⟩,
    ⟨.l 30, .p .mv, [.v 1], none⟩,
    ⟨.l 31, .p .mv, [.v 2], none⟩,
    ⟨.l 32, .l (.cal 123), [.l 29, .l 30, .l 31, .k (.m (.b false)), .k (.m (.b true))], none⟩,
    ⟨.l 28, .p .mv, [.l 32], none⟩,
    ⟨.l 33, .p (.ext 0), [.l 28], none⟩,
    ⟨.l 34, .p (.ext 1), [.l 28], none⟩,
    ⟨.v 0, .p .mv, [.l 33], none⟩])
  (.seq
  (.reg [⟨.l 35, .p .mv, [.v 0], none⟩,
    ⟨.v 6, .p .mv, [.l 35], none⟩])
  .ret))))⟩

/- strings.splitSeq -/
def c104 : F := ⟨3, [.t 6],
  (.seq
  (.reg [⟨.v 3, .l (.bxs 9 1 1), [.v 0], none⟩,
    ⟨.v 4, .l (.bxs 9 1 1), [.v 1], none⟩,
    ⟨.v 5, .l (.bxs 3 1 1), [.v 2], none⟩,
    ⟨.v 6, .p .mv, [.k (.m (.nl 2))], none⟩])
  (.seq
  (.reg [⟨.l 7, .p (.mkf 124), [.v 4, .v 3, .v 5], none⟩,
    ⟨.v 6, .p .mv, [.l 7], none⟩])
  .ret))⟩

/- internal/stringslite.HasPrefix -/
def c105 : F := ⟨2, [.t 4],
  (.seq
  (.reg [⟨.v 4, .p .mv, [.k (.m (.b false))], none⟩])
  (.seq
  (.reg [⟨.l 5, .p .mv, [.v 0], none⟩,
    ⟨.l 6, .p (.len true), [.l 5], none⟩,
    ⟨.l 7, .p .mv, [.v 1], none⟩,
    ⟨.l 8, .p (.len true), [.l 7], none⟩,
    ⟨.l 9, .p (.bin .geq), [.l 6, .l 8], none⟩,
    ⟨.l 10, .p .mv, [.l 9], none⟩,
    ⟨.l 11, .p .mv, [.v 0], some (.l 10, true)⟩,
    ⟨.l 12, .p .mv, [.v 1], some (.l 10, true)⟩,
    ⟨.l 13, .p (.len true), [.l 12], some (.l 10, true)⟩,
    ⟨.l 14, .p (.slc 0 false true false), [.l 11, .l 13], some (.l 10, true)⟩,
    ⟨.l 15, .p .mv, [.v 1], some (.l 10, true)⟩,
    ⟨.l 16, .p (.bin .eql), [.l 14, .l 15], some (.l 10, true)⟩,
    ⟨.l 17, .p .pick, [.l 10, .l 16, .k (.m (.b false))], none⟩,
    ⟨.v 4, .p .mv, [.l 17], none⟩])
  .ret))⟩

/- internal/stringslite.TrimPrefix -/
def c106 : F := ⟨2, [.t 4],
  (.seq
  (.reg [⟨.v 4, .p .mv, [.k (.m (.s []))], none⟩])
  (.seq
  (.seq
  (.reg [⟨.l 5, .p .mv, [.v 0], none⟩,
    ⟨.l 6, .p .mv, [.v 1], none⟩,
    ⟨.v 7, .l (.cal 105), [.l 5, .l 6], none⟩])
  (.ite (.v 7)
    (.seq
    (.reg [⟨.l 8, .p .mv, [.v 0], none⟩,
      ⟨.l 9, .p .mv, [.v 1], none⟩,
      ⟨.l 10, .p (.len true), [.l 9], none⟩,
      ⟨.l 11, .p (.slc 0 true false false), [.l 8, .l 10], none⟩,
      ⟨.v 4, .p .mv, [.l 11], none⟩])
    .ret)
    .skip))
  (.seq
  (.reg [⟨.l 12, .p .mv, [.v 0], none⟩,
    ⟨.v 4, .p .mv, [.l 12], none⟩])
  .ret)))⟩

/- internal/strconv.Atoi -/
def c107_B0 : C :=
  (.seq
  (.reg [⟨.v 50, .p (.bin .lss), [.v 49, .v 48], none⟩])
  (.seq
  (.ite (.v 50)
    .skip
    (.ex 0))
  (.seq
  (.blk 1
  (.seq
  (.reg [⟨.l 51, .p (.ixa 1), [.v 47, .v 49], none⟩,
    ⟨.l 52, .r (.ld false 1), [.l 51], none⟩,
    ⟨.v 8, .p .mv, [.l 52], none⟩])
  (.seq
  (.reg [⟨.l 53, .p .mv, [.v 8], none⟩,
    ⟨.l 54, .p (.bin .sub), [.l 53, .k (.m (.i .u8 48))], none⟩,
    ⟨.v 8, .p .mv, [.l 54], none⟩])
  (.seq
  (.seq
  (.reg [⟨.l 55, .p .mv, [.v 8], none⟩,
    ⟨.v 56, .p (.bin .gtr), [.l 55, .k (.m (.i .u8 9))], none⟩])
  (.ite (.v 56)
    (.seq
    (.reg [⟨.l 57, .p .mv, [], none⟩,
      ⟨.v 2, .p .mv, [.k (.m (.i .i64 0))], none⟩,
      ⟨.v 3, .p .mv, [.l 57], none⟩])
    .ret)
    .skip))
  (.reg [⟨.l 58, .p .mv, [.v 6], none⟩,
    ⟨.l 59, .p (.bin .mul), [.l 58, .k (.m (.i .i64 10))], none⟩,
    ⟨.l 60, .p .mv, [.v 8], none⟩,
    ⟨.l 61, .p (.cv .i64), [.l 60], none⟩,
    ⟨.l 62, .p (.bin .add), [.l 59, .l 61], none⟩,
    ⟨.v 6, .p .mv, [.l 62], none⟩])))))
  (.reg [⟨.l 63, .p (.bin .add), [.v 49, .k (.m (.i .i64 1))], none⟩,
    ⟨.v 49, .p .mv, [.l 63], none⟩]))))
def c107_L0 : C := .loop [0, 2, 3, 4, 8, 30, 39, 44, 50, 56] c107_B0
def c107 : F := ⟨1, [.t 2, .t 3],
  (.seq
  (.reg [⟨.v 2, .p .mv, [.k (.m (.i .i64 0))], none⟩,
    ⟨.v 3, .p .mv, [.k (.m (.nl 3))], none⟩])
  (.seq
  (.reg [⟨.l 11, .p .mv, [.v 0], none⟩,
    ⟨.l 12, .p (.len true), [.l 11], none⟩,
    ⟨.v 4, .p .mv, [.l 12], none⟩])
  (.seq
  (.seq
  (.reg [⟨.l 13, .p .mv, [.k (.m (.b false))], none⟩,
    ⟨.l 14, .p .mv, [.v 4], some (.l 13, true)⟩,
    ⟨.l 15, .p (.bin .lss), [.k (.m (.i .i64 0)), .l 14], some (.l 13, true)⟩,
    ⟨.l 16, .p .mv, [.l 15], some (.l 13, true)⟩,
    ⟨.l 17, .p .mv, [.v 4], some (.l 16, true)⟩,
    ⟨.l 18, .p (.bin .lss), [.l 17, .k (.m (.i .i64 10))], some (.l 16, true)⟩,
    ⟨.l 19, .p .pick, [.l 16, .l 18, .k (.m (.b false))], some (.l 13, true)⟩,
    ⟨.l 20, .p .pick, [.l 13, .l 19, .k (.m (.b false))], none⟩,
    ⟨.l 21, .p .mv, [.l 20], none⟩,
    ⟨.l 22, .p .mv, [.k (.m (.b true))], some (.l 21, false)⟩,
    ⟨.l 23, .p .mv, [.v 4], some (.l 22, true)⟩,
    ⟨.l 24, .p (.bin .lss), [.k (.m (.i .i64 0)), .l 23], some (.l 22, true)⟩,
    ⟨.l 25, .p .mv, [.l 24], some (.l 22, true)⟩,
    ⟨.l 26, .p .mv, [.v 4], some (.l 25, true)⟩,
    ⟨.l 27, .p (.bin .lss), [.l 26, .k (.m (.i .i64 19))], some (.l 25, true)⟩,
    ⟨.l 28, .p .pick, [.l 25, .l 27, .k (.m (.b false))], some (.l 22, true)⟩,
    ⟨.l 29, .p .pick, [.l 22, .l 28, .k (.m (.b false))], some (.l 21, false)⟩,
    ⟨.v 30, .p .pick, [.l 21, .k (.m (.b true)), .l 29], none⟩])
  (.ite (.v 30)
    (.seq
    (.reg [⟨.l 31, .p .mv, [.v 0], none⟩,
      ⟨.v 5, .p .mv, [.l 31], none⟩])
    (.seq
    (.seq
    (.reg [⟨.l 32, .p .mv, [.v 0], none⟩,
      ⟨.l 33, .p .ixs, [.l 32, .k (.m (.i .i64 0))], none⟩,
      ⟨.l 34, .p (.bin .eql), [.l 33, .k (.m (.i .u8 45))], none⟩,
      ⟨.l 35, .p .mv, [.l 34], none⟩,
      ⟨.l 36, .p .mv, [.v 0], some (.l 35, false)⟩,
      ⟨.l 37, .p .ixs, [.l 36, .k (.m (.i .i64 0))], some (.l 35, false)⟩,
      ⟨.l 38, .p (.bin .eql), [.l 37, .k (.m (.i .u8 43))], some (.l 35, false)⟩,
      ⟨.v 39, .p .pick, [.l 35, .k (.m (.b true)), .l 38], none⟩])
    (.ite (.v 39)
      (.seq
      (.reg [⟨.l 40, .p .mv, [.v 0], none⟩,
        ⟨.l 41, .p (.slc 0 true false false), [.l 40, .k (.m (.i .i64 1))], none⟩,
        ⟨.v 0, .p .mv, [.l 41], none⟩])
      (.seq
      (.reg [⟨.l 42, .p .mv, [.v 0], none⟩,
        ⟨.l 43, .p (.len true), [.l 42], none⟩,
        ⟨.v 44, .p (.bin .lss), [.l 43, .k (.m (.i .i64 1))], none⟩])
      (.ite (.v 44)
        (.seq
        (.reg [⟨.l 45, .p .mv, [], none⟩,
          ⟨.v 2, .p .mv, [.k (.m (.i .i64 0))], none⟩,
          ⟨.v 3, .p .mv, [.l 45], none⟩])
        .ret)
        .skip)))
      .skip))
    (.seq
    (.reg [⟨.v 6, .p .mv, [.k (.m (.i .i64 0))], none⟩])
    (.seq
    (.seq
    (.reg [⟨.l 46, .p .mv, [.v 0], none⟩,
      ⟨.v 47, .p .s2b, [.l 46], none⟩,
      ⟨.v 48, .p (.len false), [.v 47], none⟩,
      ⟨.v 49, .p .mv, [.k (.m (.i .i64 0))], none⟩])
    (.blk 0
    c107_L0))
    (.seq
    (.seq
    (.reg [⟨.l 64, .p .mv, [.v 5], none⟩,
      ⟨.l 65, .p .ixs, [.l 64, .k (.m (.i .i64 0))], none⟩,
      ⟨.v 66, .p (.bin .eql), [.l 65, .k (.m (.i .u8 45))], none⟩])
    (.ite (.v 66)
      (.reg [⟨.l 67, .p .mv, [.v 6], none⟩,
        ⟨.l 68, .p (.un .neg), [.l 67], none⟩,
        ⟨.v 6, .p .mv, [.l 68], none⟩])
      .skip))
    (.seq
    (.reg [⟨.l 69, .p .mv, [.v 6], none⟩,
      ⟨.v 2, .p .mv, [.l 69], none⟩,
      ⟨.v 3, .p .mv, [.k (.m (.nl 3))], none⟩])
    .ret))))))
    .skip))
  (.seq
  (.reg [⟨.l 71, .p .mv, [.v 0], none⟩,
    ⟨.l 72, .l (.cal 127), [.l 71, .k (.m (.i .i64 10)), .k (.m (.i .i64 0))], none⟩,
    ⟨.l 70, .p .mv, [.l 72], none⟩,
    ⟨.l 73, .p (.ext 0), [.l 70], none⟩,
    ⟨.l 74, .p (.ext 1), [.l 70], none⟩,
    ⟨.v 9, .p .mv, [.l 73], none⟩,
    ⟨.v 10, .p .mv, [.l 74], none⟩])
  (.seq
  (.reg [⟨.l 75, .p .mv, [.v 9], none⟩,
    ⟨.l 76, .p .mv, [.v 10], none⟩,
    ⟨.v 2, .p .mv, [.l 75], none⟩,
    ⟨.v 3, .p .mv, [.l 76], none⟩])
  .ret)))))⟩

/- strconv.toError -/
def c108 : F := ⟨5, [.t 10],
  (.seq
  (.reg [⟨.v 10, .p .mv, [.k (.m (.nl 3))], none⟩])
  (.seq
  (.seq
  (.reg [⟨.v 11, .p .mv, [.v 4], none⟩])
  (.blk 0
  (.seq
  (.reg [⟨.l 13, .p .mv, [], none⟩,
    ⟨.l 14, .p .mv, [], none⟩,
    ⟨.v 12, .p .mv, [.l 14], none⟩])
  (.ite (.v 12)
    (.seq
    (.reg [⟨.l 15, .p .mv, [.v 0], none⟩,
      ⟨.l 16, .p .mv, [.v 1], none⟩,
      ⟨.l 17, .l (.cal 128), [.l 15, .l 16], none⟩,
      ⟨.l 18, .p .mv, [], none⟩,
      ⟨.v 10, .p .mv, [.l 18], none⟩])
    .ret)
    (.seq
    (.reg [⟨.l 20, .p .mv, [], none⟩,
      ⟨.l 21, .p .mv, [], none⟩,
      ⟨.v 19, .p .mv, [.l 21], none⟩])
    (.ite (.v 19)
      (.seq
      (.reg [⟨.l 22, .p .mv, [.v 0], none⟩,
        ⟨.l 23, .p .mv, [.v 1], none⟩,
        ⟨.l 24, .l (.cal 129), [.l 22, .l 23], none⟩,
        ⟨.l 25, .p .mv, [], none⟩,
        ⟨.v 10, .p .mv, [.l 25], none⟩])
      .ret)
      (.seq
      (.reg [⟨.l 27, .p .mv, [], none⟩,
        ⟨.l 28, .p .mv, [], none⟩,
        ⟨.v 26, .p .mv, [.l 28], none⟩])
      (.ite (.v 26)
        (.seq
        (.reg [⟨.l 29, .p .mv, [.v 0], none⟩,
          ⟨.l 30, .p .mv, [.v 1], none⟩,
          ⟨.l 31, .p .mv, [.v 2], none⟩,
          ⟨.l 32, .l (.cal 130), [.l 29, .l 30, .l 31], none⟩,
          ⟨.l 33, .p .mv, [], none⟩,
          ⟨.v 10, .p .mv, [.l 33], none⟩])
        .ret)
        (.seq
        (.reg [⟨.l 35, .p .mv, [], none⟩,
          ⟨.l 36, .p .mv, [], none⟩,
          ⟨.v 34, .p .mv, [.l 36], none⟩])
        (.ite (.v 34)
          (.seq
          (.reg [⟨.l 37, .p .mv, [.v 0], none⟩,
            ⟨.l 38, .p .mv, [.v 1], none⟩,
            ⟨.l 39, .p .mv, [.v 3], none⟩,
            ⟨.l 40, .l (.cal 131), [.l 37, .l 38, .l 39], none⟩,
            ⟨.l 41, .p .mv, [], none⟩,
            ⟨.v 10, .p .mv, [.l 41], none⟩])
          .ret)
          .skip))))))))))
  (.seq
  (.reg [⟨.l 42, .p .mv, [.v 4], none⟩,
    ⟨.v 10, .p .mv, [.l 42], none⟩])
  .ret)))⟩

/- internal/strconv.small -/
def c120 : F := ⟨1, [.t 2],
  (.seq
  (.reg [⟨.v 2, .p .mv, [.k (.m (.s []))], none⟩])
  (.seq
  (.seq
  (.reg [⟨.l 3, .p .mv, [.v 0], none⟩,
    ⟨.v 4, .p (.bin .lss), [.l 3, .k (.m (.i .i64 10))], none⟩])
  (.ite (.v 4)
    (.seq
    (.reg [⟨.l 5, .p .mv, [.v 0], none⟩,
      ⟨.l 6, .p .mv, [.v 0], none⟩,
      ⟨.l 7, .p (.bin .add), [.l 6, .k (.m (.i .i64 1))], none⟩,
      ⟨.l 8, .p (.slc 0 true true false), [.k (.m (.s [48, 49, 50, 51, 52, 53, 54, 55, 56, 57, 97, 98, 99, 100, 101, 102, 103, 104, 105, 106, 107, 108, 109, 110, 111, 112, 113, 114, 115, 116, 117, 118, 119, 120, 121, 122])), .l 5, .l 7], none⟩,
      ⟨.v 2, .p .mv, [.l 8], none⟩])
    .ret)
    .skip))
  (.seq
  (.reg [⟨.l 9, .p .mv, [.v 0], none⟩,
    ⟨.l 10, .p (.bin .mul), [.l 9, .k (.m (.i .i64 2))], none⟩,
    ⟨.l 11, .p .mv, [.v 0], none⟩,
    ⟨.l 12, .p (.bin .mul), [.l 11, .k (.m (.i .i64 2))], none⟩,
    ⟨.l 13, .p (.bin .add), [.l 12, .k (.m (.i .i64 2))], none⟩,
    ⟨.l 14, .p (.slc 0 true true false), [.k (.m (.s [48, 48, 48, 49, 48, 50, 48, 51, 48, 52, 48, 53, 48, 54, 48, 55, 48, 56, 48, 57, 49, 48, 49, 49, 49, 50, 49, 51, 49, 52, 49, 53, 49, 54, 49, 55, 49, 56, 49, 57, 50, 48, 50, 49, 50, 50, 50, 51, 50, 52, 50, 53, 50, 54, 50, 55, 50, 56, 50, 57, 51, 48, 51, 49, 51, 50, 51, 51, 51, 52, 51, 53, 51, 54, 51, 55, 51, 56, 51, 57, 52, 48, 52, 49, 52, 50, 52, 51, 52, 52, 52, 53, 52, 54, 52, 55, 52, 56, 52, 57, 53, 48, 53, 49, 53, 50, 53, 51, 53, 52, 53, 53, 53, 54, 53, 55, 53, 56, 53, 57, 54, 48, 54, 49, 54, 50, 54, 51, 54, 52, 54, 53, 54, 54, 54, 55, 54, 56, 54, 57, 55, 48, 55, 49, 55, 50, 55, 51, 55, 52, 55, 53, 55, 54, 55, 55, 55, 56, 55, 57, 56, 48, 56, 49, 56, 50, 56, 51, 56, 52, 56, 53, 56, 54, 56, 55, 56, 56, 56, 57, 57, 48, 57, 49, 57, 50, 57, 51, 57, 52, 57, 53, 57, 54, 57, 55, 57, 56, 57, 57])), .l 10, .l 13], none⟩,
    ⟨.v 2, .p .mv, [.l 14], none⟩])
  .ret)))⟩

/- internal/strconv.numDigits -/
def c121 : F := ⟨1, [.t 2],
  (.seq
  (.reg [⟨.v 2, .p .mv, [.k (.m (.i .i64 0))], none⟩])
  (.seq
  (.reg [⟨.l 4, .p .mv, [.v 0], none⟩,
    ⟨.l 5, .l (.cal 83), [.l 4], none⟩,
    ⟨.l 6, .l (.cal 135), [.l 5], none⟩,
    ⟨.v 3, .p .mv, [.l 6], none⟩])
  (.seq
  (.reg [⟨.l 7, .p .mv, [.v 3], none⟩,
    ⟨.l 8, .p .mv, [.v 0], none⟩,
    ⟨.l 9, .p .mv, [.v 3], none⟩,
    ⟨.l 10, .p (.ixaA 20 1), [.k (.m (.pt g0)), .l 9], none⟩,
    ⟨.l 11, .r (.ld false 1), [.l 10], none⟩,
    ⟨.l 12, .p (.bin .geq), [.l 8, .l 11], none⟩,
    ⟨.l 13, .l (.cal 136), [.l 12], none⟩,
    ⟨.l 14, .p (.bin .add), [.l 7, .l 13], none⟩,
    ⟨.v 2, .p .mv, [.l 14], none⟩])
  .ret)))⟩

/- internal/strconv.formatBase10 -/
def c122_B0 : C :=
  (.seq
  (.seq
  (.reg [⟨.l 19, .p .mv, [.v 4], none⟩,
    ⟨.v 20, .p (.bin .geq), [.l 19, .k (.m (.i .i64 8))], none⟩])
  (.ite (.v 20)
    .skip
    (.ex 0)))
  (.blk 1
  (.seq
  (.reg [⟨.l 21, .p .mv, [.v 1], none⟩,
    ⟨.l 22, .p (.bin .rem), [.l 21, .k (.m (.i .u64 100000000))], none⟩,
    ⟨.l 23, .p (.cv .u32), [.l 22], none⟩,
    ⟨.v 5, .p .mv, [.l 23], none⟩])
  (.seq
  (.reg [⟨.l 24, .p .mv, [.v 1], none⟩,
    ⟨.l 25, .p (.bin .quo), [.l 24, .k (.m (.i .u64 100000000))], none⟩,
    ⟨.v 1, .p .mv, [.l 25], none⟩])
  (.seq
  (.reg [⟨.l 26, .p .mv, [.v 5], none⟩,
    ⟨.l 27, .p (.bin .quo), [.l 26, .k (.m (.i .u32 10000))], none⟩,
    ⟨.l 28, .p .mv, [.v 5], none⟩,
    ⟨.l 29, .p (.bin .rem), [.l 28, .k (.m (.i .u32 10000))], none⟩,
    ⟨.v 6, .p .mv, [.l 27], none⟩,
    ⟨.v 7, .p .mv, [.l 29], none⟩])
  (.seq
  (.reg [⟨.l 30, .p .mv, [.v 7], none⟩,
    ⟨.l 31, .p (.bin .quo), [.l 30, .k (.m (.i .u32 100))], none⟩,
    ⟨.l 32, .p (.bin .mul), [.l 31, .k (.m (.i .u32 2))], none⟩,
    ⟨.l 33, .p .mv, [.v 7], none⟩,
    ⟨.l 34, .p (.bin .rem), [.l 33, .k (.m (.i .u32 100))], none⟩,
    ⟨.l 35, .p (.bin .mul), [.l 34, .k (.m (.i .u32 2))], none⟩,
    ⟨.v 8, .p .mv, [.l 32], none⟩,
    ⟨.v 9, .p .mv, [.l 35], none⟩])
  (.seq
  (.reg [⟨.l 36, .p .mv, [.v 6], none⟩,
    ⟨.l 37, .p (.bin .quo), [.l 36, .k (.m (.i .u32 100))], none⟩,
    ⟨.l 38, .p (.bin .mul), [.l 37, .k (.m (.i .u32 2))], none⟩,
    ⟨.l 39, .p .mv, [.v 6], none⟩,
    ⟨.l 40, .p (.bin .rem), [.l 39, .k (.m (.i .u32 100))], none⟩,
    ⟨.l 41, .p (.bin .mul), [.l 40, .k (.m (.i .u32 2))], none⟩,
    ⟨.v 10, .p .mv, [.l 38], none⟩,
    ⟨.v 11, .p .mv, [.l 41], none⟩])
  (.seq
  (.reg [⟨.l 42, .p .mv, [.v 0], none⟩,
    ⟨.l 43, .p .mv, [.v 4], none⟩,
    ⟨.l 44, .p (.bin .sub), [.l 43, .k (.m (.i .i64 1))], none⟩,
    ⟨.l 45, .p .mv, [.v 0], none⟩,
    ⟨.l 46, .p .mv, [.v 4], none⟩,
    ⟨.l 47, .p (.bin .sub), [.l 46, .k (.m (.i .i64 2))], none⟩,
    ⟨.l 48, .p .mv, [.v 9], none⟩,
    ⟨.l 49, .p (.bin .add), [.l 48, .k (.m (.i .u32 1))], none⟩,
    ⟨.l 50, .p .ixs, [.k (.m (.s [48, 48, 48, 49, 48, 50, 48, 51, 48, 52, 48, 53, 48, 54, 48, 55, 48, 56, 48, 57, 49, 48, 49, 49, 49, 50, 49, 51, 49, 52, 49, 53, 49, 54, 49, 55, 49, 56, 49, 57, 50, 48, 50, 49, 50, 50, 50, 51, 50, 52, 50, 53, 50, 54, 50, 55, 50, 56, 50, 57, 51, 48, 51, 49, 51, 50, 51, 51, 51, 52, 51, 53, 51, 54, 51, 55, 51, 56, 51, 57, 52, 48, 52, 49, 52, 50, 52, 51, 52, 52, 52, 53, 52, 54, 52, 55, 52, 56, 52, 57, 53, 48, 53, 49, 53, 50, 53, 51, 53, 52, 53, 53, 53, 54, 53, 55, 53, 56, 53, 57, 54, 48, 54, 49, 54, 50, 54, 51, 54, 52, 54, 53, 54, 54, 54, 55, 54, 56, 54, 57, 55, 48, 55, 49, 55, 50, 55, 51, 55, 52, 55, 53, 55, 54, 55, 55, 55, 56, 55, 57, 56, 48, 56, 49, 56, 50, 56, 51, 56, 52, 56, 53, 56, 54, 56, 55, 56, 56, 56, 57, 57, 48, 57, 49, 57, 50, 57, 51, 57, 52, 57, 53, 57, 54, 57, 55, 57, 56, 57, 57])), .l 49], none⟩,
    ⟨.l 51, .p .mv, [.v 9], none⟩,
    ⟨.l 52, .p .ixs, [.k (.m (.s [48, 48, 48, 49, 48, 50, 48, 51, 48, 52, 48, 53, 48, 54, 48, 55, 48, 56, 48, 57, 49, 48, 49, 49, 49, 50, 49, 51, 49, 52, 49, 53, 49, 54, 49, 55, 49, 56, 49, 57, 50, 48, 50, 49, 50, 50, 50, 51, 50, 52, 50, 53, 50, 54, 50, 55, 50, 56, 50, 57, 51, 48, 51, 49, 51, 50, 51, 51, 51, 52, 51, 53, 51, 54, 51, 55, 51, 56, 51, 57, 52, 48, 52, 49, 52, 50, 52, 51, 52, 52, 52, 53, 52, 54, 52, 55, 52, 56, 52, 57, 53, 48, 53, 49, 53, 50, 53, 51, 53, 52, 53, 53, 53, 54, 53, 55, 53, 56, 53, 57, 54, 48, 54, 49, 54, 50, 54, 51, 54, 52, 54, 53, 54, 54, 54, 55, 54, 56, 54, 57, 55, 48, 55, 49, 55, 50, 55, 51, 55, 52, 55, 53, 55, 54, 55, 55, 55, 56, 55, 57, 56, 48, 56, 49, 56, 50, 56, 51, 56, 52, 56, 53, 56, 54, 56, 55, 56, 56, 56, 57, 57, 48, 57, 49, 57, 50, 57, 51, 57, 52, 57, 53, 57, 54, 57, 55, 57, 56, 57, 57])), .l 51], none⟩,
    ⟨.l 53, .p (.ixa 1), [.l 42, .l 44], none⟩,
    ⟨.no, .l (.st 1), [.l 53, .l 50], none⟩,
    ⟨.l 54, .p (.ixa 1), [.l 45, .l 47], none⟩,
    ⟨.no, .l (.st 1), [.l 54, .l 52], none⟩])
  (.seq
  (.reg [⟨.l 55, .p .mv, [.v 0], none⟩,
    ⟨.l 56, .p .mv, [.v 4], none⟩,
    ⟨.l 57, .p (.bin .sub), [.l 56, .k (.m (.i .i64 3))], none⟩,
    ⟨.l 58, .p .mv, [.v 0], none⟩,
    ⟨.l 59, .p .mv, [.v 4], none⟩,
    ⟨.l 60, .p (.bin .sub), [.l 59, .k (.m (.i .i64 4))], none⟩,
    ⟨.l 61, .p .mv, [.v 8], none⟩,
    ⟨.l 62, .p (.bin .add), [.l 61, .k (.m (.i .u32 1))], none⟩,
    ⟨.l 63, .p .ixs, [.k (.m (.s [48, 48, 48, 49, 48, 50, 48, 51, 48, 52, 48, 53, 48, 54, 48, 55, 48, 56, 48, 57, 49, 48, 49, 49, 49, 50, 49, 51, 49, 52, 49, 53, 49, 54, 49, 55, 49, 56, 49, 57, 50, 48, 50, 49, 50, 50, 50, 51, 50, 52, 50, 53, 50, 54, 50, 55, 50, 56, 50, 57, 51, 48, 51, 49, 51, 50, 51, 51, 51, 52, 51, 53, 51, 54, 51, 55, 51, 56, 51, 57, 52, 48, 52, 49, 52, 50, 52, 51, 52, 52, 52, 53, 52, 54, 52, 55, 52, 56, 52, 57, 53, 48, 53, 49, 53, 50, 53, 51, 53, 52, 53, 53, 53, 54, 53, 55, 53, 56, 53, 57, 54, 48, 54, 49, 54, 50, 54, 51, 54, 52, 54, 53, 54, 54, 54, 55, 54, 56, 54, 57, 55, 48, 55, 49, 55, 50, 55, 51, 55, 52, 55, 53, 55, 54, 55, 55, 55, 56, 55, 57, 56, 48, 56, 49, 56, 50, 56, 51, 56, 52, 56, 53, 56, 54, 56, 55, 56, 56, 56, 57, 57, 48, 57, 49, 57, 50, 57, 51, 57, 52, 57, 53, 57, 54, 57, 55, 57, 56, 57, 57])), .l 62], none⟩,
    ⟨.l 64, .p .mv, [.v 8], none⟩,
    ⟨.l 65, .p .ixs, [.k (.m (.s [48, 48, 48, 49, 48, 50, 48, 51, 48, 52, 48, 53, 48, 54, 48, 55, 48, 56, 48, 57, 49, 48, 49, 49, 49, 50, 49, 51, 49, 52, 49, 53, 49, 54, 49, 55, 49, 56, 49, 57, 50, 48, 50, 49, 50, 50, 50, 51, 50, 52, 50, 53, 50, 54, 50, 55, 50, 56, 50, 57, 51, 48, 51, 49, 51, 50, 51, 51, 51, 52, 51, 53, 51, 54, 51, 55, 51, 56, 51, 57, 52, 48, 52, 49, 52, 50, 52, 51, 52, 52, 52, 53, 52, 54, 52, 55, 52, 56, 52, 57, 53, 48, 53, 49, 53, 50, 53, 51, 53, 52, 53, 53, 53, 54, 53, 55, 53, 56, 53, 57, 54, 48, 54, 49, 54, 50, 54, 51, 54, 52, 54, 53, 54, 54, 54, 55, 54, 56, 54, 57, 55, 48, 55, 49, 55, 50, 55, 51, 55, 52, 55, 53, 55, 54, 55, 55, 55, 56, 55, 57, 56, 48, 56, 49, 56, 50, 56, 51, 56, 52, 56, 53, 56, 54, 56, 55, 56, 56, 56, 57, 57, 48, 57, 49, 57, 50, 57, 51, 57, 52, 57, 53, 57, 54, 57, 55, 57, 56, 57, 57])), .l 64], none⟩,
    ⟨.l 66, .p (.ixa 1), [.l 55, .l 57], none⟩,
    ⟨.no, .l (.st 1), [.l 66, .l 63], none⟩,
    ⟨.l 67, .p (.ixa 1), [.l 58, .l 60], none⟩,
    ⟨.no, .l (.st 1), [.l 67, .l 65], none⟩])
  (.seq
  (.reg [⟨.l 68, .p .mv, [.v 0], none⟩,
    ⟨.l 69, .p .mv, [.v 4], none⟩,
    ⟨.l 70, .p (.bin .sub), [.l 69, .k (.m (.i .i64 5))], none⟩,
    ⟨.l 71, .p .mv, [.v 0], none⟩,
    ⟨.l 72, .p .mv, [.v 4], none⟩,
    ⟨.l 73, .p (.bin .sub), [.l 72, .k (.m (.i .i64 6))], none⟩,
    ⟨.l 74, .p .mv, [.v 11], none⟩,
    ⟨.l 75, .p (.bin .add), [.l 74, .k (.m (.i .u32 1))], none⟩,
    ⟨.l 76, .p .ixs, [.k (.m (.s [48, 48, 48, 49, 48, 50, 48, 51, 48, 52, 48, 53, 48, 54, 48, 55, 48, 56, 48, 57, 49, 48, 49, 49, 49, 50, 49, 51, 49, 52, 49, 53, 49, 54, 49, 55, 49, 56, 49, 57, 50, 48, 50, 49, 50, 50, 50, 51, 50, 52, 50, 53, 50, 54, 50, 55, 50, 56, 50, 57, 51, 48, 51, 49, 51, 50, 51, 51, 51, 52, 51, 53, 51, 54, 51, 55, 51, 56, 51, 57, 52, 48, 52, 49, 52, 50, 52, 51, 52, 52, 52, 53, 52, 54, 52, 55, 52, 56, 52, 57, 53, 48, 53, 49, 53, 50, 53, 51, 53, 52, 53, 53, 53, 54, 53, 55, 53, 56, 53, 57, 54, 48, 54, 49, 54, 50, 54, 51, 54, 52, 54, 53, 54, 54, 54, 55, 54, 56, 54, 57, 55, 48, 55, 49, 55, 50, 55, 51, 55, 52, 55, 53, 55, 54, 55, 55, 55, 56, 55, 57, 56, 48, 56, 49, 56, 50, 56, 51, 56, 52, 56, 53, 56, 54, 56, 55, 56, 56, 56, 57, 57, 48, 57, 49, 57, 50, 57, 51, 57, 52, 57, 53, 57, 54, 57, 55, 57, 56, 57, 57])), .l 75], none⟩,
    ⟨.l 77, .p .mv, [.v 11], none⟩,
    ⟨.l 78, .p .ixs, [.k (.m (.s [48, 48, 48, 49, 48, 50, 48, 51, 48, 52, 48, 53, 48, 54, 48, 55, 48, 56, 48, 57, 49, 48, 49, 49, 49, 50, 49, 51, 49, 52, 49, 53, 49, 54, 49, 55, 49, 56, 49, 57, 50, 48, 50, 49, 50, 50, 50, 51, 50, 52, 50, 53, 50, 54, 50, 55, 50, 56, 50, 57, 51, 48, 51, 49, 51, 50, 51, 51, 51, 52, 51, 53, 51, 54, 51, 55, 51, 56, 51, 57, 52, 48, 52, 49, 52, 50, 52, 51, 52, 52, 52, 53, 52, 54, 52, 55, 52, 56, 52, 57, 53, 48, 53, 49, 53, 50, 53, 51, 53, 52, 53, 53, 53, 54, 53, 55, 53, 56, 53, 57, 54, 48, 54, 49, 54, 50, 54, 51, 54, 52, 54, 53, 54, 54, 54, 55, 54, 56, 54, 57, 55, 48, 55, 49, 55, 50, 55, 51, 55, 52, 55, 53, 55, 54, 55, 55, 55, 56, 55, 57, 56, 48, 56, 49, 56, 50, 56, 51, 56, 52, 56, 53, 56, 54, 56, 55, 56, 56, 56, 57, 57, 48, 57, 49, 57, 50, 57, 51, 57, 52, 57, 53, 57, 54, 57, 55, 57, 56, 57, 57])), .l 77], none⟩,
    ⟨.l 79, .p (.ixa 1), [.l 68, .l 70], none⟩,
    ⟨.no, .l (.st 1), [.l 79, .l 76], none⟩,
    ⟨.l 80, .p (.ixa 1), [.l 71, .l 73], none⟩,
    ⟨.no, .l (.st 1), [.l 80, .l 78], none⟩])
  (.seq
  (.reg [⟨.l 81, .p .mv, [.v 0], none⟩,
    ⟨.l 82, .p .mv, [.v 4], none⟩,
    ⟨.l 83, .p (.bin .sub), [.l 82, .k (.m (.i .i64 7))], none⟩,
    ⟨.l 84, .p .mv, [.v 0], none⟩,
    ⟨.l 85, .p .mv, [.v 4], none⟩,
    ⟨.l 86, .p (.bin .sub), [.l 85, .k (.m (.i .i64 8))], none⟩,
    ⟨.l 87, .p .mv, [.v 10], none⟩,
    ⟨.l 88, .p (.bin .add), [.l 87, .k (.m (.i .u32 1))], none⟩,
    ⟨.l 89, .p .ixs, [.k (.m (.s [48, 48, 48, 49, 48, 50, 48, 51, 48, 52, 48, 53, 48, 54, 48, 55, 48, 56, 48, 57, 49, 48, 49, 49, 49, 50, 49, 51, 49, 52, 49, 53, 49, 54, 49, 55, 49, 56, 49, 57, 50, 48, 50, 49, 50, 50, 50, 51, 50, 52, 50, 53, 50, 54, 50, 55, 50, 56, 50, 57, 51, 48, 51, 49, 51, 50, 51, 51, 51, 52, 51, 53, 51, 54, 51, 55, 51, 56, 51, 57, 52, 48, 52, 49, 52, 50, 52, 51, 52, 52, 52, 53, 52, 54, 52, 55, 52, 56, 52, 57, 53, 48, 53, 49, 53, 50, 53, 51, 53, 52, 53, 53, 53, 54, 53, 55, 53, 56, 53, 57, 54, 48, 54, 49, 54, 50, 54, 51, 54, 52, 54, 53, 54, 54, 54, 55, 54, 56, 54, 57, 55, 48, 55, 49, 55, 50, 55, 51, 55, 52, 55, 53, 55, 54, 55, 55, 55, 56, 55, 57, 56, 48, 56, 49, 56, 50, 56, 51, 56, 52, 56, 53, 56, 54, 56, 55, 56, 56, 56, 57, 57, 48, 57, 49, 57, 50, 57, 51, 57, 52, 57, 53, 57, 54, 57, 55, 57, 56, 57, 57])), .l 88], none⟩,
    ⟨.l 90, .p .mv, [.v 10], none⟩,
    ⟨.l 91, .p .ixs, [.k (.m (.s [48, 48, 48, 49, 48, 50, 48, 51, 48, 52, 48, 53, 48, 54, 48, 55, 48, 56, 48, 57, 49, 48, 49, 49, 49, 50, 49, 51, 49, 52, 49, 53, 49, 54, 49, 55, 49, 56, 49, 57, 50, 48, 50, 49, 50, 50, 50, 51, 50, 52, 50, 53, 50, 54, 50, 55, 50, 56, 50, 57, 51, 48, 51, 49, 51, 50, 51, 51, 51, 52, 51, 53, 51, 54, 51, 55, 51, 56, 51, 57, 52, 48, 52, 49, 52, 50, 52, 51, 52, 52, 52, 53, 52, 54, 52, 55, 52, 56, 52, 57, 53, 48, 53, 49, 53, 50, 53, 51, 53, 52, 53, 53, 53, 54, 53, 55, 53, 56, 53, 57, 54, 48, 54, 49, 54, 50, 54, 51, 54, 52, 54, 53, 54, 54, 54, 55, 54, 56, 54, 57, 55, 48, 55, 49, 55, 50, 55, 51, 55, 52, 55, 53, 55, 54, 55, 55, 55, 56, 55, 57, 56, 48, 56, 49, 56, 50, 56, 51, 56, 52, 56, 53, 56, 54, 56, 55, 56, 56, 56, 57, 57, 48, 57, 49, 57, 50, 57, 51, 57, 52, 57, 53, 57, 54, 57, 55, 57, 56, 57, 57])), .l 90], none⟩,
    ⟨.l 92, .p (.ixa 1), [.l 81, .l 83], none⟩,
    ⟨.no, .l (.st 1), [.l 92, .l 89], none⟩,
    ⟨.l 93, .p (.ixa 1), [.l 84, .l 86], none⟩,
    ⟨.no, .l (.st 1), [.l 93, .l 91], none⟩])
  (.reg [⟨.l 94, .p .mv, [.v 4], none⟩,
    ⟨.l 95, .p (.bin .sub), [.l 94, .k (.m (.i .i64 8))], none⟩,
    ⟨.v 4, .p .mv, [.l 95], none⟩]))))))))))))
def c122_L0 : C := .loop [5, 6, 7, 8, 9, 10, 11, 20] c122_B0
def c122 : F := ⟨2, [],
  (.seq
  (.reg [⟨.l 17, .p .mv, [.v 0], none⟩,
    ⟨.l 18, .p (.len false), [.l 17], none⟩,
    ⟨.v 4, .p .mv, [.l 18], none⟩])
  (.seq
  (.blk 0
  c122_L0)
  (.seq
  (.reg [⟨.l 96, .p .mv, [.v 1], none⟩,
    ⟨.l 97, .p (.cv .u32), [.l 96], none⟩,
    ⟨.v 12, .p .mv, [.l 97], none⟩])
  (.seq
  (.seq
  (.reg [⟨.l 98, .p .mv, [.v 4], none⟩,
    ⟨.v 99, .p (.bin .geq), [.l 98, .k (.m (.i .i64 4))], none⟩])
  (.ite (.v 99)
    (.seq
    (.reg [⟨.l 100, .p .mv, [.v 12], none⟩,
      ⟨.l 101, .p (.bin .rem), [.l 100, .k (.m (.i .u32 10000))], none⟩,
      ⟨.v 13, .p .mv, [.l 101], none⟩])
    (.seq
    (.reg [⟨.l 102, .p .mv, [.v 12], none⟩,
      ⟨.l 103, .p (.bin .quo), [.l 102, .k (.m (.i .u32 10000))], none⟩,
      ⟨.v 12, .p .mv, [.l 103], none⟩])
    (.seq
    (.reg [⟨.l 104, .p .mv, [.v 13], none⟩,
      ⟨.l 105, .p (.bin .quo), [.l 104, .k (.m (.i .u32 100))], none⟩,
      ⟨.l 106, .p (.bin .mul), [.l 105, .k (.m (.i .u32 2))], none⟩,
      ⟨.l 107, .p .mv, [.v 13], none⟩,
      ⟨.l 108, .p (.bin .rem), [.l 107, .k (.m (.i .u32 100))], none⟩,
      ⟨.l 109, .p (.bin .mul), [.l 108, .k (.m (.i .u32 2))], none⟩,
      ⟨.v 14, .p .mv, [.l 106], none⟩,
      ⟨.v 15, .p .mv, [.l 109], none⟩])
    (.seq
    (.reg [⟨.l 110, .p .mv, [.v 0], none⟩,
      ⟨.l 111, .p .mv, [.v 4], none⟩,
      ⟨.l 112, .p (.bin .sub), [.l 111, .k (.m (.i .i64 1))], none⟩,
      ⟨.l 113, .p .mv, [.v 0], none⟩,
      ⟨.l 114, .p .mv, [.v 4], none⟩,
      ⟨.l 115, .p (.bin .sub), [.l 114, .k (.m (.i .i64 2))], none⟩,
      ⟨.l 116, .p .mv, [.v 15], none⟩,
      ⟨.l 117, .p (.bin .add), [.l 116, .k (.m (.i .u32 1))], none⟩,
      ⟨.l 118, .p .ixs, [.k (.m (.s [48, 48, 48, 49, 48, 50, 48, 51, 48, 52, 48, 53, 48, 54, 48, 55, 48, 56, 48, 57, 49, 48, 49, 49, 49, 50, 49, 51, 49, 52, 49, 53, 49, 54, 49, 55, 49, 56, 49, 57, 50, 48, 50, 49, 50, 50, 50, 51, 50, 52, 50, 53, 50, 54, 50, 55, 50, 56, 50, 57, 51, 48, 51, 49, 51, 50, 51, 51, 51, 52, 51, 53, 51, 54, 51, 55, 51, 56, 51, 57, 52, 48, 52, 49, 52, 50, 52, 51, 52, 52, 52, 53, 52, 54, 52, 55, 52, 56, 52, 57, 53, 48, 53, 49, 53, 50, 53, 51, 53, 52, 53, 53, 53, 54, 53, 55, 53, 56, 53, 57, 54, 48, 54, 49, 54, 50, 54, 51, 54, 52, 54, 53, 54, 54, 54, 55, 54, 56, 54, 57, 55, 48, 55, 49, 55, 50, 55, 51, 55, 52, 55, 53, 55, 54, 55, 55, 55, 56, 55, 57, 56, 48, 56, 49, 56, 50, 56, 51, 56, 52, 56, 53, 56, 54, 56, 55, 56, 56, 56, 57, 57, 48, 57, 49, 57, 50, 57, 51, 57, 52, 57, 53, 57, 54, 57, 55, 57, 56, 57, 57])), .l 117], none⟩,
      ⟨.l 119, .p .mv, [.v 15], none⟩,
      ⟨.l 120, .p .ixs, [.k (.m (.s [48, 48, 48, 49, 48, 50, 48, 51, 48, 52, 48, 53, 48, 54, 48, 55, 48, 56, 48, 57, 49, 48, 49, 49, 49, 50, 49, 51, 49, 52, 49, 53, 49, 54, 49, 55, 49, 56, 49, 57, 50, 48, 50, 49, 50, 50, 50, 51, 50, 52, 50, 53, 50, 54, 50, 55, 50, 56, 50, 57, 51, 48, 51, 49, 51, 50, 51, 51, 51, 52, 51, 53, 51, 54, 51, 55, 51, 56, 51, 57, 52, 48, 52, 49, 52, 50, 52, 51, 52, 52, 52, 53, 52, 54, 52, 55, 52, 56, 52, 57, 53, 48, 53, 49, 53, 50, 53, 51, 53, 52, 53, 53, 53, 54, 53, 55, 53, 56, 53, 57, 54, 48, 54, 49, 54, 50, 54, 51, 54, 52, 54, 53, 54, 54, 54, 55, 54, 56, 54, 57, 55, 48, 55, 49, 55, 50, 55, 51, 55, 52, 55, 53, 55, 54, 55, 55, 55, 56, 55, 57, 56, 48, 56, 49, 56, 50, 56, 51, 56, 52, 56, 53, 56, 54, 56, 55, 56, 56, 56, 57, 57, 48, 57, 49, 57, 50, 57, 51, 57, 52, 57, 53, 57, 54, 57, 55, 57, 56, 57, 57])), .l 119], none⟩,
      ⟨.l 121, .p (.ixa 1), [.l 110, .l 112], none⟩,
      ⟨.no, .l (.st 1), [.l 121, .l 118], none⟩,
      ⟨.l 122, .p (.ixa 1), [.l 113, .l 115], none⟩,
      ⟨.no, .l (.st 1), [.l 122, .l 120], none⟩])
    (.seq
    (.reg [⟨.l 123, .p .mv, [.v 0], none⟩,
      ⟨.l 124, .p .mv, [.v 4], none⟩,
      ⟨.l 125, .p (.bin .sub), [.l 124, .k (.m (.i .i64 3))], none⟩,
      ⟨.l 126, .p .mv, [.v 0], none⟩,
      ⟨.l 127, .p .mv, [.v 4], none⟩,
      ⟨.l 128, .p (.bin .sub), [.l 127, .k (.m (.i .i64 4))], none⟩,
      ⟨.l 129, .p .mv, [.v 14], none⟩,
      ⟨.l 130, .p (.bin .add), [.l 129, .k (.m (.i .u32 1))], none⟩,
      ⟨.l 131, .p .ixs, [.k (.m (.s [48, 48, 48, 49, 48, 50, 48, 51, 48, 52, 48, 53, 48, 54, 48, 55, 48, 56, 48, 57, 49, 48, 49, 49, 49, 50, 49, 51, 49, 52, 49, 53, 49, 54, 49, 55, 49, 56, 49, 57, 50, 48, 50, 49, 50, 50, 50, 51, 50, 52, 50, 53, 50, 54, 50, 55, 50, 56, 50, 57, 51, 48, 51, 49, 51, 50, 51, 51, 51, 52, 51, 53, 51, 54, 51, 55, 51, 56, 51, 57, 52, 48, 52, 49, 52, 50, 52, 51, 52, 52, 52, 53, 52, 54, 52, 55, 52, 56, 52, 57, 53, 48, 53, 49, 53, 50, 53, 51, 53, 52, 53, 53, 53, 54, 53, 55, 53, 56, 53, 57, 54, 48, 54, 49, 54, 50, 54, 51, 54, 52, 54, 53, 54, 54, 54, 55, 54, 56, 54, 57, 55, 48, 55, 49, 55, 50, 55, 51, 55, 52, 55, 53, 55, 54, 55, 55, 55, 56, 55, 57, 56, 48, 56, 49, 56, 50, 56, 51, 56, 52, 56, 53, 56, 54, 56, 55, 56, 56, 56, 57, 57, 48, 57, 49, 57, 50, 57, 51, 57, 52, 57, 53, 57, 54, 57, 55, 57, 56, 57, 57])), .l 130], none⟩,
      ⟨.l 132, .p .mv, [.v 14], none⟩,
      ⟨.l 133, .p .ixs, [.k (.m (.s [48, 48, 48, 49, 48, 50, 48, 51, 48, 52, 48, 53, 48, 54, 48, 55, 48, 56, 48, 57, 49, 48, 49, 49, 49, 50, 49, 51, 49, 52, 49, 53, 49, 54, 49, 55, 49, 56, 49, 57, 50, 48, 50, 49, 50, 50, 50, 51, 50, 52, 50, 53, 50, 54, 50, 55, 50, 56, 50, 57, 51, 48, 51, 49, 51, 50, 51, 51, 51, 52, 51, 53, 51, 54, 51, 55, 51, 56, 51, 57, 52, 48, 52, 49, 52, 50, 52, 51, 52, 52, 52, 53, 52, 54, 52, 55, 52, 56, 52, 57, 53, 48, 53, 49, 53, 50, 53, 51, 53, 52, 53, 53, 53, 54, 53, 55, 53, 56, 53, 57, 54, 48, 54, 49, 54, 50, 54, 51, 54, 52, 54, 53, 54, 54, 54, 55, 54, 56, 54, 57, 55, 48, 55, 49, 55, 50, 55, 51, 55, 52, 55, 53, 55, 54, 55, 55, 55, 56, 55, 57, 56, 48, 56, 49, 56, 50, 56, 51, 56, 52, 56, 53, 56, 54, 56, 55, 56, 56, 56, 57, 57, 48, 57, 49, 57, 50, 57, 51, 57, 52, 57, 53, 57, 54, 57, 55, 57, 56, 57, 57])), .l 132], none⟩,
      ⟨.l 134, .p (.ixa 1), [.l 123, .l 125], none⟩,
      ⟨.no, .l (.st 1), [.l 134, .l 131], none⟩,
      ⟨.l 135, .p (.ixa 1), [.l 126, .l 128], none⟩,
      ⟨.no, .l (.st 1), [.l 135, .l 133], none⟩])
    (.reg [⟨.l 136, .p .mv, [.v 4], none⟩,
      ⟨.l 137, .p (.bin .sub), [.l 136, .k (.m (.i .i64 4))], none⟩,
      ⟨.v 4, .p .mv, [.l 137], none⟩]))))))
    .skip))
  (.seq
  (.seq
  (.reg [⟨.l 138, .p .mv, [.v 4], none⟩,
    ⟨.v 139, .p (.bin .geq), [.l 138, .k (.m (.i .i64 2))], none⟩])
  (.ite (.v 139)
    (.seq
    (.reg [⟨.l 140, .p .mv, [.v 12], none⟩,
      ⟨.l 141, .p (.bin .rem), [.l 140, .k (.m (.i .u32 100))], none⟩,
      ⟨.l 142, .p (.bin .mul), [.l 141, .k (.m (.i .u32 2))], none⟩,
      ⟨.v 16, .p .mv, [.l 142], none⟩])
    (.seq
    (.reg [⟨.l 143, .p .mv, [.v 12], none⟩,
      ⟨.l 144, .p (.bin .quo), [.l 143, .k (.m (.i .u32 100))], none⟩,
      ⟨.v 12, .p .mv, [.l 144], none⟩])
    (.seq
    (.reg [⟨.l 145, .p .mv, [.v 0], none⟩,
      ⟨.l 146, .p .mv, [.v 4], none⟩,
      ⟨.l 147, .p (.bin .sub), [.l 146, .k (.m (.i .i64 1))], none⟩,
      ⟨.l 148, .p .mv, [.v 0], none⟩,
      ⟨.l 149, .p .mv, [.v 4], none⟩,
      ⟨.l 150, .p (.bin .sub), [.l 149, .k (.m (.i .i64 2))], none⟩,
      ⟨.l 151, .p .mv, [.v 16], none⟩,
      ⟨.l 152, .p (.bin .add), [.l 151, .k (.m (.i .u32 1))], none⟩,
      ⟨.l 153, .p .ixs, [.k (.m (.s [48, 48, 48, 49, 48, 50, 48, 51, 48, 52, 48, 53, 48, 54, 48, 55, 48, 56, 48, 57, 49, 48, 49, 49, 49, 50, 49, 51, 49, 52, 49, 53, 49, 54, 49, 55, 49, 56, 49, 57, 50, 48, 50, 49, 50, 50, 50, 51, 50, 52, 50, 53, 50, 54, 50, 55, 50, 56, 50, 57, 51, 48, 51, 49, 51, 50, 51, 51, 51, 52, 51, 53, 51, 54, 51, 55, 51, 56, 51, 57, 52, 48, 52, 49, 52, 50, 52, 51, 52, 52, 52, 53, 52, 54, 52, 55, 52, 56, 52, 57, 53, 48, 53, 49, 53, 50, 53, 51, 53, 52, 53, 53, 53, 54, 53, 55, 53, 56, 53, 57, 54, 48, 54, 49, 54, 50, 54, 51, 54, 52, 54, 53, 54, 54, 54, 55, 54, 56, 54, 57, 55, 48, 55, 49, 55, 50, 55, 51, 55, 52, 55, 53, 55, 54, 55, 55, 55, 56, 55, 57, 56, 48, 56, 49, 56, 50, 56, 51, 56, 52, 56, 53, 56, 54, 56, 55, 56, 56, 56, 57, 57, 48, 57, 49, 57, 50, 57, 51, 57, 52, 57, 53, 57, 54, 57, 55, 57, 56, 57, 57])), .l 152], none⟩,
      ⟨.l 154, .p .mv, [.v 16], none⟩,
      ⟨.l 155, .p .ixs, [.k (.m (.s [48, 48, 48, 49, 48, 50, 48, 51, 48, 52, 48, 53, 48, 54, 48, 55, 48, 56, 48, 57, 49, 48, 49, 49, 49, 50, 49, 51, 49, 52, 49, 53, 49, 54, 49, 55, 49, 56, 49, 57, 50, 48, 50, 49, 50, 50, 50, 51, 50, 52, 50, 53, 50, 54, 50, 55, 50, 56, 50, 57, 51, 48, 51, 49, 51, 50, 51, 51, 51, 52, 51, 53, 51, 54, 51, 55, 51, 56, 51, 57, 52, 48, 52, 49, 52, 50, 52, 51, 52, 52, 52, 53, 52, 54, 52, 55, 52, 56, 52, 57, 53, 48, 53, 49, 53, 50, 53, 51, 53, 52, 53, 53, 53, 54, 53, 55, 53, 56, 53, 57, 54, 48, 54, 49, 54, 50, 54, 51, 54, 52, 54, 53, 54, 54, 54, 55, 54, 56, 54, 57, 55, 48, 55, 49, 55, 50, 55, 51, 55, 52, 55, 53, 55, 54, 55, 55, 55, 56, 55, 57, 56, 48, 56, 49, 56, 50, 56, 51, 56, 52, 56, 53, 56, 54, 56, 55, 56, 56, 56, 57, 57, 48, 57, 49, 57, 50, 57, 51, 57, 52, 57, 53, 57, 54, 57, 55, 57, 56, 57, 57])), .l 154], none⟩,
      ⟨.l 156, .p (.ixa 1), [.l 145, .l 147], none⟩,
      ⟨.no, .l (.st 1), [.l 156, .l 153], none⟩,
      ⟨.l 157, .p (.ixa 1), [.l 148, .l 150], none⟩,
      ⟨.no, .l (.st 1), [.l 157, .l 155], none⟩])
    (.reg [⟨.l 158, .p .mv, [.v 4], none⟩,
      ⟨.l 159, .p (.bin .sub), [.l 158, .k (.m (.i .i64 2))], none⟩,
      ⟨.v 4, .p .mv, [.l 159], none⟩]))))
    .skip))
  (.seq
  (.reg [⟨.l 160, .p .mv, [.v 4], none⟩,
    ⟨.v 161, .p (.bin .gtr), [.l 160, .k (.m (.i .i64 0))], none⟩])
  (.ite (.v 161)
    (.reg [⟨.l 162, .p .mv, [.v 0], none⟩,
      ⟨.l 163, .p .mv, [.v 12], none⟩,
      ⟨.l 164, .p (.bin .add), [.k (.m (.i .u32 48)), .l 163], none⟩,
      ⟨.l 165, .p (.cv .u8), [.l 164], none⟩,
      ⟨.l 166, .p (.ixa 1), [.l 162, .k (.m (.i .i64 0))], none⟩,
      ⟨.no, .l (.st 1), [.l 166, .l 165], none⟩])
    .skip)))))))⟩

/- strings.splitSeq$1 -/
def c124_B0 : C :=
  (.seq
  (.seq
  (.reg [⟨.l 12, .r (.ld false 1), [.v 2], none⟩,
    ⟨.l 13, .p (.len true), [.l 12], none⟩,
    ⟨.v 14, .p (.bin .gtr), [.l 13, .k (.m (.i .i64 0))], none⟩])
  (.ite (.v 14)
    .skip
    (.ex 0)))
  (.blk 1
  (.seq
  (.reg [⟨.l 16, .r (.ld false 1), [.v 2], none⟩,
    ⟨.l 17, .l (.cal 125), [.l 16], none⟩,
    ⟨.l 15, .p .mv, [.l 17], none⟩,
    ⟨.l 18, .p (.ext 0), [.l 15], none⟩,
    ⟨.l 19, .p (.ext 1), [.l 15], none⟩,
    ⟨.l 5, .p .mv, [.l 18], none⟩,
    ⟨.v 6, .p .mv, [.l 19], none⟩])
  (.seq
  (.seq
  (.reg [⟨.l 20, .p .mv, [.v 0], none⟩,
    ⟨.l 21, .r (.ld false 1), [.v 2], none⟩,
    ⟨.l 22, .p .mv, [.v 6], none⟩,
    ⟨.l 23, .p (.slc 0 false true false), [.l 21, .l 22], none⟩,
    ⟨.l 24, .l .cav, [.l 20, .l 23], none⟩,
    ⟨.v 25, .p (.un .not), [.l 24], none⟩])
  (.ite (.v 25)
    .ret
    .skip))
  (.reg [⟨.l 26, .r (.ld false 1), [.v 2], none⟩,
    ⟨.l 27, .p .mv, [.v 6], none⟩,
    ⟨.l 28, .p (.slc 0 true false false), [.l 26, .l 27], none⟩,
    ⟨.no, .l (.st 1), [.v 2, .l 28], none⟩])))))
def c124_L0 : C := .loop [1, 3, 6, 11, 14, 25] c124_B0
def c124_B1 : C :=
  (.blk 3
  (.seq
  (.reg [⟨.l 29, .r (.ld false 1), [.v 2], none⟩,
    ⟨.l 30, .r (.ld false 1), [.v 1], none⟩,
    ⟨.l 31, .l (.cal 126), [.l 29, .l 30], none⟩,
    ⟨.v 7, .p .mv, [.l 31], none⟩])
  (.seq
  (.seq
  (.reg [⟨.l 32, .p .mv, [.v 7], none⟩,
    ⟨.v 33, .p (.bin .lss), [.l 32, .k (.m (.i .i64 0))], none⟩])
  (.ite (.v 33)
    (.ex 2)
    .skip))
  (.seq
  (.reg [⟨.l 34, .r (.ld false 1), [.v 2], none⟩,
    ⟨.l 35, .p .mv, [.v 7], none⟩,
    ⟨.l 36, .r (.ld false 1), [.v 3], none⟩,
    ⟨.l 37, .p (.bin .add), [.l 35, .l 36], none⟩,
    ⟨.l 38, .p (.slc 0 false true false), [.l 34, .l 37], none⟩,
    ⟨.v 8, .p .mv, [.l 38], none⟩])
  (.seq
  (.seq
  (.reg [⟨.l 39, .p .mv, [.v 0], none⟩,
    ⟨.l 40, .p .mv, [.v 8], none⟩,
    ⟨.l 41, .l .cav, [.l 39, .l 40], none⟩,
    ⟨.v 42, .p (.un .not), [.l 41], none⟩])
  (.ite (.v 42)
    .ret
    .skip))
  (.reg [⟨.l 43, .r (.ld false 1), [.v 2], none⟩,
    ⟨.l 44, .p .mv, [.v 7], none⟩,
    ⟨.l 45, .r (.ld false 1), [.v 1], none⟩,
    ⟨.l 46, .p (.len true), [.l 45], none⟩,
    ⟨.l 47, .p (.bin .add), [.l 44, .l 46], none⟩,
    ⟨.l 48, .p (.slc 0 true false false), [.l 43, .l 47], none⟩,
    ⟨.no, .l (.st 1), [.v 2, .l 48], none⟩]))))))
def c124_L1 : C := .loop [7, 8, 11, 33, 42] c124_B1
def c124 : F := ⟨4, [],
  (.seq
  (.seq
  (.reg [⟨.l 9, .r (.ld false 1), [.v 1], none⟩,
    ⟨.l 10, .p (.len true), [.l 9], none⟩,
    ⟨.v 11, .p (.bin .eql), [.l 10, .k (.m (.i .i64 0))], none⟩])
  (.ite (.v 11)
    (.seq
    (.blk 0
    c124_L0)
    .ret)
    .skip))
  (.seq
  (.blk 2
  c124_L1)
  (.reg [⟨.l 49, .p .mv, [.v 0], none⟩,
    ⟨.l 50, .r (.ld false 1), [.v 2], none⟩,
    ⟨.l 51, .l .cav, [.l 49, .l 50], none⟩])))⟩

/- strings.Index -/
def c126 : F := ⟨2, [.t 4],
  (.seq
  (.reg [⟨.v 4, .p .mv, [.k (.m (.i .i64 0))], none⟩])
  (.seq
  (.reg [⟨.l 5, .p .mv, [.v 0], none⟩,
    ⟨.l 6, .p .mv, [.v 1], none⟩,
    ⟨.l 7, .l (.cal 140), [.l 5, .l 6], none⟩,
    ⟨.v 4, .p .mv, [.l 7], none⟩])
  .ret))⟩

/- strconv.syntaxError -/
def c128 : F := ⟨2, [.t 4],
  (.seq
  (.reg [⟨.v 4, .p .mv, [.k (.m (.nl 0))], none⟩])
  (.seq
  (.reg [⟨.l 5, .p .mv, [.v 0], none⟩,
    ⟨.l 6, .p .mv, [.v 1], none⟩,
    ⟨.l 7, .l (.cal 142), [.l 6], none⟩,
    ⟨.l 8, .p .mv, [], none⟩,
    ⟨.l 9, .p (.build [.m (.s []), .m (.s []), .m (.nl 3)] [(0, 1), (1, 1), (2, 1)]), [.l 5, .l 7, .l 8], none⟩,
    ⟨.v 10, .l (.bxs 156 3 1), [.l 9], none⟩,
    ⟨.v 4, .p .mv, [.v 10], none⟩])
  .ret))⟩

/- strconv.rangeError -/
def c129 : F := ⟨2, [.t 4],
  (.seq
  (.reg [⟨.v 4, .p .mv, [.k (.m (.nl 0))], none⟩])
  (.seq
  (.reg [⟨.l 5, .p .mv, [.v 0], none⟩,
    ⟨.l 6, .p .mv, [.v 1], none⟩,
    ⟨.l 7, .l (.cal 142), [.l 6], none⟩,
    ⟨.l 8, .p .mv, [], none⟩,
    ⟨.l 9, .p (.build [.m (.s []), .m (.s []), .m (.nl 3)] [(0, 1), (1, 1), (2, 1)]), [.l 5, .l 7, .l 8], none⟩,
    ⟨.v 10, .l (.bxs 156 3 1), [.l 9], none⟩,
    ⟨.v 4, .p .mv, [.v 10], none⟩])
  .ret))⟩

/- strconv.baseError -/
def c130 : F := ⟨3, [.t 6],
  (.seq
  (.reg [⟨.v 6, .p .mv, [.k (.m (.nl 0))], none⟩])
  (.seq
  (.reg [⟨.l 7, .p .mv, [.v 0], none⟩,
    ⟨.l 8, .p .mv, [.v 1], none⟩,
    ⟨.l 9, .l (.cal 142), [.l 8], none⟩,
    ⟨.l 10, .p .mv, [.v 2], none⟩,
    ⟨.l 11, .l (.cal 51), [.l 10], none⟩,
    ⟨.l 12, .p (.bin .add), [.k (.m (.s [105, 110, 118, 97, 108, 105, 100, 32, 98, 97, 115, 101, 32])), .l 11], none⟩,
    ⟨.l 13, .l (.cal 143), [.l 12], none⟩,
    ⟨.l 14, .p (.build [.m (.s []), .m (.s []), .m (.nl 3)] [(0, 1), (1, 1), (2, 1)]), [.l 7, .l 9, .l 13], none⟩,
    ⟨.v 15, .l (.bxs 156 3 1), [.l 14], none⟩,
    ⟨.v 6, .p .mv, [.v 15], none⟩])
  .ret))⟩

/- strconv.bitSizeError -/
def c131 : F := ⟨3, [.t 6],
  (.seq
  (.reg [⟨.v 6, .p .mv, [.k (.m (.nl 0))], none⟩])
  (.seq
  (.reg [⟨.l 7, .p .mv, [.v 0], none⟩,
    ⟨.l 8, .p .mv, [.v 1], none⟩,
    ⟨.l 9, .l (.cal 142), [.l 8], none⟩,
    ⟨.l 10, .p .mv, [.v 2], none⟩,
    ⟨.l 11, .l (.cal 51), [.l 10], none⟩,
    ⟨.l 12, .p (.bin .add), [.k (.m (.s [105, 110, 118, 97, 108, 105, 100, 32, 98, 105, 116, 32, 115, 105, 122, 101, 32])), .l 11], none⟩,
    ⟨.l 13, .l (.cal 143), [.l 12], none⟩,
    ⟨.l 14, .p (.build [.m (.s []), .m (.s []), .m (.nl 3)] [(0, 1), (1, 1), (2, 1)]), [.l 7, .l 9, .l 13], none⟩,
    ⟨.v 15, .l (.bxs 156 3 1), [.l 14], none⟩,
    ⟨.v 6, .p .mv, [.v 15], none⟩])
  .ret))⟩

/- internal/strconv.log10Pow2 -/
def c135 : F := ⟨1, [.t 2],
  (.seq
  (.reg [⟨.v 2, .p .mv, [.k (.m (.i .i64 0))], none⟩])
  (.seq
  (.reg [⟨.l 3, .p .mv, [.v 0], none⟩,
    ⟨.l 4, .p (.bin .mul), [.l 3, .k (.m (.i .i64 78913))], none⟩,
    ⟨.l 5, .p (.bin .shr), [.l 4, .k (.m (.i .u64 18))], none⟩,
    ⟨.v 2, .p .mv, [.l 5], none⟩])
  .ret))⟩

/- internal/strconv.bool2[int] -/
def c136 : F := ⟨1, [.t 2],
  (.seq
  (.reg [⟨.v 2, .p .mv, [.k (.m (.i .i64 0))], none⟩])
  (.seq
  (.seq
  (.reg [⟨.v 3, .p .mv, [.v 0], none⟩])
  (.ite (.v 3)
    (.seq
    (.reg [⟨.v 2, .p .mv, [.k (.m (.i .i64 1))], none⟩])
    .ret)
    .skip))
  (.seq
  (.reg [⟨.v 2, .p .mv, [.k (.m (.i .i64 0))], none⟩])
  .ret)))⟩

/- internal/strconv.isPowerOfTwo -/
def c137 : F := ⟨1, [.t 2],
  (.seq
  (.reg [⟨.v 2, .p .mv, [.k (.m (.b false))], none⟩])
  (.seq
  (.reg [⟨.l 3, .p .mv, [.v 0], none⟩,
    ⟨.l 4, .p .mv, [.v 0], none⟩,
    ⟨.l 5, .p (.bin .sub), [.l 4, .k (.m (.i .i64 1))], none⟩,
    ⟨.l 6, .p (.bin .and), [.l 3, .l 5], none⟩,
    ⟨.l 7, .p (.bin .eql), [.l 6, .k (.m (.i .i64 0))], none⟩,
    ⟨.v 2, .p .mv, [.l 7], none⟩])
  .ret))⟩

/- math/bits.TrailingZeros -/
def c138 : F := ⟨1, [.t 2],
  (.seq
  (.reg [⟨.v 2, .p .mv, [.k (.m (.i .i64 0))], none⟩])
  (.seq
  (.ite (.k (.m (.b false)))
    (.seq
    (.reg [⟨.l 3, .p .mv, [.v 0], none⟩,
      ⟨.l 4, .p (.cv .u32), [.l 3], none⟩,
      ⟨.l 5, .l (.cal 144), [.l 4], none⟩,
      ⟨.v 2, .p .mv, [.l 5], none⟩])
    .ret)
    .skip)
  (.seq
  (.reg [⟨.l 6, .p .mv, [.v 0], none⟩,
    ⟨.l 7, .l (.cal 145), [.l 6], none⟩,
    ⟨.v 2, .p .mv, [.l 7], none⟩])
  .ret)))⟩

/- internal/stringslite.Index -/
def c140_B0 : C :=
  (.seq
  (.seq
  (.reg [⟨.l 57, .p .mv, [.v 8], none⟩,
    ⟨.l 58, .p .mv, [.v 9], none⟩,
    ⟨.v 59, .p (.bin .lss), [.l 57, .l 58], none⟩])
  (.ite (.v 59)
    .skip
    (.ex 1)))
  (.blk 2
  (.seq
  (.seq
  (.reg [⟨.l 60, .p .mv, [.v 0], none⟩,
    ⟨.l 61, .p .mv, [.v 8], none⟩,
    ⟨.l 62, .p .ixs, [.l 60, .l 61], none⟩,
    ⟨.l 63, .p .mv, [.v 6], none⟩,
    ⟨.v 64, .p (.bin .neq), [.l 62, .l 63], none⟩])
  (.ite (.v 64)
    (.seq
    (.reg [⟨.l 65, .p .mv, [.v 0], none⟩,
      ⟨.l 66, .p .mv, [.v 8], none⟩,
      ⟨.l 67, .p (.bin .add), [.l 66, .k (.m (.i .i64 1))], none⟩,
      ⟨.l 68, .p .mv, [.v 9], none⟩,
      ⟨.l 69, .p (.slc 0 true true false), [.l 65, .l 67, .l 68], none⟩,
      ⟨.l 70, .p .mv, [.v 6], none⟩,
      ⟨.l 71, .l (.cal 146), [.l 69, .l 70], none⟩,
      ⟨.v 11, .p .mv, [.l 71], none⟩])
    (.seq
    (.seq
    (.reg [⟨.l 72, .p .mv, [.v 11], none⟩,
      ⟨.v 73, .p (.bin .lss), [.l 72, .k (.m (.i .i64 0))], none⟩])
    (.ite (.v 73)
      (.seq
      (.reg [⟨.v 4, .p .mv, [.k (.m (.i .i64 (-1)))], none⟩])
      .ret)
      .skip))
    (.reg [⟨.l 74, .p .mv, [.v 8], none⟩,
      ⟨.l 75, .p .mv, [.v 11], none⟩,
      ⟨.l 76, .p (.bin .add), [.l 75, .k (.m (.i .i64 1))], none⟩,
      ⟨.l 77, .p (.bin .add), [.l 74, .l 76], none⟩,
      ⟨.v 8, .p .mv, [.l 77], none⟩])))
    .skip))
  (.seq
  (.seq
  (.reg [⟨.l 78, .p .mv, [.v 0], none⟩,
    ⟨.l 79, .p .mv, [.v 8], none⟩,
    ⟨.l 80, .p (.bin .add), [.l 79, .k (.m (.i .i64 1))], none⟩,
    ⟨.l 81, .p .ixs, [.l 78, .l 80], none⟩,
    ⟨.l 82, .p .mv, [.v 7], none⟩,
    ⟨.l 83, .p (.bin .eql), [.l 81, .l 82], none⟩,
    ⟨.l 84, .p .mv, [.l 83], none⟩,
    ⟨.l 85, .p .mv, [.v 0], some (.l 84, true)⟩,
    ⟨.l 86, .p .mv, [.v 8], some (.l 84, true)⟩,
    ⟨.l 87, .p .mv, [.v 8], some (.l 84, true)⟩,
    ⟨.l 88, .p .mv, [.v 5], some (.l 84, true)⟩,
    ⟨.l 89, .p (.bin .add), [.l 87, .l 88], some (.l 84, true)⟩,
    ⟨.l 90, .p (.slc 0 true true false), [.l 85, .l 86, .l 89], some (.l 84, true)⟩,
    ⟨.l 91, .p .mv, [.v 1], some (.l 84, true)⟩,
    ⟨.l 92, .p (.bin .eql), [.l 90, .l 91], some (.l 84, true)⟩,
    ⟨.v 93, .p .pick, [.l 84, .l 92, .k (.m (.b false))], none⟩])
  (.ite (.v 93)
    (.seq
    (.reg [⟨.l 94, .p .mv, [.v 8], none⟩,
      ⟨.v 4, .p .mv, [.l 94], none⟩])
    .ret)
    .skip))
  (.seq
  (.reg [⟨.l 95, .p .mv, [.v 8], none⟩,
    ⟨.l 96, .p (.bin .add), [.l 95, .k (.m (.i .i64 1))], none⟩,
    ⟨.v 8, .p .mv, [.l 96], none⟩])
  (.seq
  (.reg [⟨.l 97, .p .mv, [.v 10], none⟩,
    ⟨.l 98, .p (.bin .add), [.l 97, .k (.m (.i .i64 1))], none⟩,
    ⟨.v 10, .p .mv, [.l 98], none⟩])
  (.seq
  (.reg [⟨.l 99, .p .mv, [.v 5], none⟩,
    ⟨.l 100, .p .mv, [], none⟩,
    ⟨.l 101, .p (.bin .leq), [.l 99, .l 100], none⟩,
    ⟨.l 102, .p .mv, [.l 101], none⟩,
    ⟨.l 103, .p .mv, [.v 10], some (.l 102, true)⟩,
    ⟨.l 104, .p .mv, [.v 8], some (.l 102, true)⟩,
    ⟨.l 105, .l (.cal 148), [.l 104], some (.l 102, true)⟩,
    ⟨.l 106, .p (.bin .gtr), [.l 103, .l 105], some (.l 102, true)⟩,
    ⟨.v 107, .p .pick, [.l 102, .l 106, .k (.m (.b false))], none⟩])
  (.ite (.v 107)
    (.seq
    (.reg [⟨.l 108, .p .mv, [.v 0], none⟩,
      ⟨.l 109, .p .mv, [.v 8], none⟩,
      ⟨.l 110, .p (.slc 0 true false false), [.l 108, .l 109], none⟩,
      ⟨.l 111, .p .mv, [.v 1], none⟩,
      ⟨.l 112, .l (.cal 147), [.l 110, .l 111], none⟩,
      ⟨.v 12, .p .mv, [.l 112], none⟩])
    (.seq
    (.seq
    (.reg [⟨.l 113, .p .mv, [.v 12], none⟩,
      ⟨.v 114, .p (.bin .geq), [.l 113, .k (.m (.i .i64 0))], none⟩])
    (.ite (.v 114)
      (.seq
      (.reg [⟨.l 115, .p .mv, [.v 12], none⟩,
        ⟨.l 116, .p .mv, [.v 8], none⟩,
        ⟨.l 117, .p (.bin .add), [.l 115, .l 116], none⟩,
        ⟨.v 4, .p .mv, [.l 117], none⟩])
      .ret)
      .skip))
    (.seq
    (.reg [⟨.v 4, .p .mv, [.k (.m (.i .i64 (-1)))], none⟩])
    .ret)))
    (.seq
    (.reg [⟨.l 118, .p .mv, [.v 5], none⟩,
      ⟨.l 119, .p .mv, [], none⟩,
      ⟨.l 120, .p (.bin .gtr), [.l 118, .l 119], none⟩,
      ⟨.l 121, .p .mv, [.l 120], none⟩,
      ⟨.l 122, .p .mv, [.v 10], some (.l 121, true)⟩,
      ⟨.l 123, .p .mv, [.v 8], some (.l 121, true)⟩,
      ⟨.l 124, .p (.bin .shr), [.l 123, .k (.m (.i .u64 4))], some (.l 121, true)⟩,
      ⟨.l 125, .p (.bin .add), [.k (.m (.i .i64 4)), .l 124], some (.l 121, true)⟩,
      ⟨.l 126, .p (.bin .geq), [.l 122, .l 125], some (.l 121, true)⟩,
      ⟨.l 127, .p .pick, [.l 121, .l 126, .k (.m (.b false))], none⟩,
      ⟨.l 128, .p .mv, [.l 127], none⟩,
      ⟨.l 129, .p .mv, [.v 8], some (.l 128, true)⟩,
      ⟨.l 130, .p .mv, [.v 9], some (.l 128, true)⟩,
      ⟨.l 131, .p (.bin .lss), [.l 129, .l 130], some (.l 128, true)⟩,
      ⟨.v 132, .p .pick, [.l 128, .l 131, .k (.m (.b false))], none⟩])
    (.ite (.v 132)
      (.seq
      (.reg [⟨.l 133, .p .mv, [.v 0], none⟩,
        ⟨.l 134, .p .mv, [.v 8], none⟩,
        ⟨.l 135, .p (.slc 0 true false false), [.l 133, .l 134], none⟩,
        ⟨.l 136, .p .mv, [.v 1], none⟩,
        ⟨.l 137, .l (.cal 149), [.l 135, .l 136], none⟩,
        ⟨.v 13, .p .mv, [.l 137], none⟩])
      (.seq
      (.seq
      (.reg [⟨.l 138, .p .mv, [.v 13], none⟩,
        ⟨.v 139, .p (.bin .lss), [.l 138, .k (.m (.i .i64 0))], none⟩])
      (.ite (.v 139)
        (.seq
        (.reg [⟨.v 4, .p .mv, [.k (.m (.i .i64 (-1)))], none⟩])
        .ret)
        .skip))
      (.seq
      (.reg [⟨.l 140, .p .mv, [.v 8], none⟩,
        ⟨.l 141, .p .mv, [.v 13], none⟩,
        ⟨.l 142, .p (.bin .add), [.l 140, .l 141], none⟩,
        ⟨.v 4, .p .mv, [.l 142], none⟩])
      .ret)))
      .skip))))))))))
def c140_L0 : C := .loop [4, 11, 16, 24, 31, 36, 59, 64, 73, 93, 107, 132] c140_B0
def c140 : F := ⟨2, [.t 4],
  (.seq
  (.reg [⟨.v 4, .p .mv, [.k (.m (.i .i64 0))], none⟩])
  (.seq
  (.reg [⟨.l 14, .p .mv, [.v 1], none⟩,
    ⟨.l 15, .p (.len true), [.l 14], none⟩,
    ⟨.v 5, .p .mv, [.l 15], none⟩])
  (.seq
  (.blk 0
  (.seq
  (.reg [⟨.l 17, .p .mv, [.v 5], none⟩,
    ⟨.l 18, .p (.bin .eql), [.l 17, .k (.m (.i .i64 0))], none⟩,
    ⟨.l 19, .p .mv, [.l 18], none⟩,
    ⟨.l 20, .p .mv, [.v 1], some (.l 19, false)⟩,
    ⟨.l 21, .p .mv, [.v 0], some (.l 19, false)⟩,
    ⟨.l 22, .p (.bin .eql), [.l 20, .l 21], some (.l 19, false)⟩,
    ⟨.l 23, .p .pick, [.l 19, .k (.m (.b true)), .l 22], none⟩,
    ⟨.v 16, .p .mv, [.l 23], none⟩])
  (.ite (.v 16)
    (.seq
    (.reg [⟨.v 4, .p .mv, [.k (.m (.i .i64 0))], none⟩])
    .ret)
    (.seq
    (.reg [⟨.l 25, .p .mv, [.v 5], none⟩,
      ⟨.l 26, .p (.bin .eql), [.l 25, .k (.m (.i .i64 1))], none⟩,
      ⟨.v 24, .p .mv, [.l 26], none⟩])
    (.ite (.v 24)
      (.seq
      (.reg [⟨.l 27, .p .mv, [.v 0], none⟩,
        ⟨.l 28, .p .mv, [.v 1], none⟩,
        ⟨.l 29, .p .ixs, [.l 28, .k (.m (.i .i64 0))], none⟩,
        ⟨.l 30, .l (.cal 146), [.l 27, .l 29], none⟩,
        ⟨.v 4, .p .mv, [.l 30], none⟩])
      .ret)
      (.seq
      (.reg [⟨.l 32, .p .mv, [.v 5], none⟩,
        ⟨.l 33, .p .mv, [.v 0], none⟩,
        ⟨.l 34, .p (.len true), [.l 33], none⟩,
        ⟨.l 35, .p (.bin .geq), [.l 32, .l 34], none⟩,
        ⟨.v 31, .p .mv, [.l 35], none⟩])
      (.ite (.v 31)
        (.seq
        (.reg [⟨.v 4, .p .mv, [.k (.m (.i .i64 (-1)))], none⟩])
        .ret)
        (.seq
        (.reg [⟨.l 37, .p .mv, [.v 5], none⟩,
          ⟨.l 38, .p .mv, [], none⟩,
          ⟨.l 39, .p (.bin .leq), [.l 37, .l 38], none⟩,
          ⟨.l 40, .p .mv, [.l 39], none⟩,
          ⟨.l 41, .p .mv, [.v 0], some (.l 40, true)⟩,
          ⟨.l 42, .p (.len true), [.l 41], some (.l 40, true)⟩,
          ⟨.l 43, .p (.bin .leq), [.l 42, .k (.m (.i .i64 64))], some (.l 40, true)⟩,
          ⟨.l 44, .p .pick, [.l 40, .l 43, .k (.m (.b false))], none⟩,
          ⟨.v 36, .p .mv, [.l 44], none⟩])
        (.ite (.v 36)
          (.seq
          (.reg [⟨.l 45, .p .mv, [.v 0], none⟩,
            ⟨.l 46, .p .mv, [.v 1], none⟩,
            ⟨.l 47, .l (.cal 147), [.l 45, .l 46], none⟩,
            ⟨.v 4, .p .mv, [.l 47], none⟩])
          .ret)
          .skip)))))))))
  (.seq
  (.reg [⟨.l 48, .p .mv, [.v 1], none⟩,
    ⟨.l 49, .p .ixs, [.l 48, .k (.m (.i .i64 0))], none⟩,
    ⟨.v 6, .p .mv, [.l 49], none⟩])
  (.seq
  (.reg [⟨.l 50, .p .mv, [.v 1], none⟩,
    ⟨.l 51, .p .ixs, [.l 50, .k (.m (.i .i64 1))], none⟩,
    ⟨.v 7, .p .mv, [.l 51], none⟩])
  (.seq
  (.reg [⟨.v 8, .p .mv, [.k (.m (.i .i64 0))], none⟩])
  (.seq
  (.reg [⟨.l 52, .p .mv, [.v 0], none⟩,
    ⟨.l 53, .p (.len true), [.l 52], none⟩,
    ⟨.l 54, .p .mv, [.v 5], none⟩,
    ⟨.l 55, .p (.bin .sub), [.l 53, .l 54], none⟩,
    ⟨.l 56, .p (.bin .add), [.l 55, .k (.m (.i .i64 1))], none⟩,
    ⟨.v 9, .p .mv, [.l 56], none⟩])
  (.seq
  (.reg [⟨.v 10, .p .mv, [.k (.m (.i .i64 0))], none⟩])
  (.seq
  (.blk 1
  c140_L0)
  (.seq
  (.reg [⟨.v 4, .p .mv, [.k (.m (.i .i64 (-1)))], none⟩])
  .ret))))))))))⟩

/- internal/stringslite.Clone -/
def c142 : F := ⟨1, [.t 2],
  (.seq
  (.reg [⟨.v 2, .p .mv, [.k (.m (.s []))], none⟩])
  (.seq
  (.seq
  (.reg [⟨.l 4, .p .mv, [.v 0], none⟩,
    ⟨.l 5, .p (.len true), [.l 4], none⟩,
    ⟨.v 6, .p (.bin .eql), [.l 5, .k (.m (.i .i64 0))], none⟩])
  (.ite (.v 6)
    (.seq
    (.reg [⟨.v 2, .p .mv, [.k (.m (.s []))], none⟩])
    .ret)
    .skip))
  (.seq
  (.reg [⟨.l 7, .p .mv, [.v 0], none⟩,
    ⟨.l 8, .p (.len true), [.l 7], none⟩,
    ⟨.l 9, .l (.mks 5 1 [.m (.i .u8 0)] 1), [.l 8, .l 8], none⟩,
    ⟨.v 3, .p .mv, [.l 9], none⟩])
  (.seq
  (.reg [⟨.l 10, .p .mv, [.v 3], none⟩,
    ⟨.l 11, .p .mv, [.v 0], none⟩,
    ⟨.l 12, .p .mv, [], none⟩])
  (.seq
  (.reg [⟨.l 13, .p .mv, [.v 3], none⟩,
    ⟨.l 14, .p (.ixa 1), [.l 13, .k (.m (.i .i64 0))], none⟩,
    ⟨.l 15, .p .mv, [.v 3], none⟩,
    ⟨.l 16, .p (.len false), [.l 15], none⟩,
    ⟨.l 17, .l (.ust 5), [.l 14, .l 16], none⟩,
    ⟨.v 2, .p .mv, [.l 17], none⟩])
  .ret)))))⟩

/- errors.New -/
def c143 : F := ⟨1, [.t 2],
  (.seq
  (.reg [⟨.v 2, .p .mv, [.k (.m (.nl 3))], none⟩])
  (.seq
  (.reg [⟨.l 3, .p .mv, [.v 0], none⟩,
    ⟨.l 4, .p (.build [.m (.s [])] [(0, 1)]), [.l 3], none⟩,
    ⟨.v 5, .l (.bxs 167 1 1), [.l 4], none⟩,
    ⟨.l 6, .p .mv, [], none⟩,
    ⟨.v 2, .p .mv, [.l 6], none⟩])
  .ret))⟩

/- math/bits.TrailingZeros32 -/
def c144 : F := ⟨1, [.t 2],
  (.seq
  (.reg [⟨.v 2, .p .mv, [.k (.m (.i .i64 0))], none⟩])
  (.seq
  (.seq
  (.reg [⟨.l 3, .p .mv, [.v 0], none⟩,
    ⟨.v 4, .p (.bin .eql), [.l 3, .k (.m (.i .u32 0))], none⟩])
  (.ite (.v 4)
    (.seq
    (.reg [⟨.v 2, .p .mv, [.k (.m (.i .i64 32))], none⟩])
    .ret)
    .skip))
  (.seq
  (.reg [⟨.l 5, .p .mv, [.v 0], none⟩,
    ⟨.l 6, .p .mv, [.v 0], none⟩,
    ⟨.l 7, .p (.un .neg), [.l 6], none⟩,
    ⟨.l 8, .p (.bin .and), [.l 5, .l 7], none⟩,
    ⟨.l 9, .p (.bin .mul), [.l 8, .k (.m (.i .u32 125613361))], none⟩,
    ⟨.l 10, .p (.bin .shr), [.l 9, .k (.m (.i .u64 27))], none⟩,
    ⟨.l 11, .p (.ixaA 32 1), [.k (.m (.pt g6)), .l 10], none⟩,
    ⟨.l 12, .r (.ld false 1), [.l 11], none⟩,
    ⟨.l 13, .p (.cv .i64), [.l 12], none⟩,
    ⟨.v 2, .p .mv, [.l 13], none⟩])
  .ret)))⟩

/- math/bits.TrailingZeros64 -/
def c145 : F := ⟨1, [.t 2],
  (.seq
  (.reg [⟨.v 2, .p .mv, [.k (.m (.i .i64 0))], none⟩])
  (.seq
  (.seq
  (.reg [⟨.l 3, .p .mv, [.v 0], none⟩,
    ⟨.v 4, .p (.bin .eql), [.l 3, .k (.m (.i .u64 0))], none⟩])
  (.ite (.v 4)
    (.seq
    (.reg [⟨.v 2, .p .mv, [.k (.m (.i .i64 64))], none⟩])
    .ret)
    .skip))
  (.seq
  (.reg [⟨.l 5, .p .mv, [.v 0], none⟩,
    ⟨.l 6, .p .mv, [.v 0], none⟩,
    ⟨.l 7, .p (.un .neg), [.l 6], none⟩,
    ⟨.l 8, .p (.bin .and), [.l 5, .l 7], none⟩,
    ⟨.l 9, .p (.bin .mul), [.l 8, .k (.m (.i .u64 285870213051353865))], none⟩,
    ⟨.l 10, .p (.bin .shr), [.l 9, .k (.m (.i .u64 58))], none⟩,
    ⟨.l 11, .p (.ixaA 64 1), [.k (.m (.pt g7)), .l 10], none⟩,
    ⟨.l 12, .r (.ld false 1), [.l 11], none⟩,
    ⟨.l 13, .p (.cv .i64), [.l 12], none⟩,
    ⟨.v 2, .p .mv, [.l 13], none⟩])
  .ret)))⟩

/- internal/strconv.lower -/
def c150 : F := ⟨1, [.t 2],
  (.seq
  (.reg [⟨.v 2, .p .mv, [.k (.m (.i .u8 0))], none⟩])
  (.seq
  (.reg [⟨.l 3, .p .mv, [.v 0], none⟩,
    ⟨.l 4, .p (.bin .or), [.l 3, .k (.m (.i .u8 32))], none⟩,
    ⟨.v 2, .p .mv, [.l 4], none⟩])
  .ret))⟩

/- internal/bytealg.hashStr[string] -/
def c153_B0 : C :=
  (.seq
  (.seq
  (.reg [⟨.l 9, .p .mv, [.v 5], none⟩,
    ⟨.l 10, .p .mv, [.v 0], none⟩,
    ⟨.l 11, .p (.len true), [.l 10], none⟩,
    ⟨.v 12, .p (.bin .lss), [.l 9, .l 11], none⟩])
  (.ite (.v 12)
    .skip
    (.ex 0)))
  (.seq
  (.blk 1
  (.reg [⟨.l 15, .p .mv, [.v 4], none⟩,
    ⟨.l 16, .p (.bin .mul), [.l 15, .k (.m (.i .u32 16777619))], none⟩,
    ⟨.l 17, .p .mv, [.v 0], none⟩,
    ⟨.l 18, .p .mv, [.v 5], none⟩,
    ⟨.l 19, .p .ixs, [.l 17, .l 18], none⟩,
    ⟨.l 20, .p (.cv .u32), [.l 19], none⟩,
    ⟨.l 21, .p (.bin .add), [.l 16, .l 20], none⟩,
    ⟨.v 4, .p .mv, [.l 21], none⟩]))
  (.reg [⟨.l 13, .p .mv, [.v 5], none⟩,
    ⟨.l 14, .p (.bin .add), [.l 13, .k (.m (.i .i64 1))], none⟩,
    ⟨.v 5, .p .mv, [.l 14], none⟩])))
def c153_L0 : C := .loop [2, 3, 12] c153_B0
def c153_B1 : C :=
  (.seq
  (.seq
  (.reg [⟨.l 24, .p .mv, [.v 8], none⟩,
    ⟨.v 25, .p (.bin .gtr), [.l 24, .k (.m (.i .i64 0))], none⟩])
  (.ite (.v 25)
    .skip
    (.ex 2)))
  (.seq
  (.blk 3
  (.seq
  (.seq
  (.reg [⟨.l 28, .p .mv, [.v 8], none⟩,
    ⟨.l 29, .p (.bin .and), [.l 28, .k (.m (.i .i64 1))], none⟩,
    ⟨.v 30, .p (.bin .neq), [.l 29, .k (.m (.i .i64 0))], none⟩])
  (.ite (.v 30)
    (.reg [⟨.l 31, .p .mv, [.v 6], none⟩,
      ⟨.l 32, .p .mv, [.v 7], none⟩,
      ⟨.l 33, .p (.bin .mul), [.l 31, .l 32], none⟩,
      ⟨.v 6, .p .mv, [.l 33], none⟩])
    .skip))
  (.reg [⟨.l 34, .p .mv, [.v 7], none⟩,
    ⟨.l 35, .p .mv, [.v 7], none⟩,
    ⟨.l 36, .p (.bin .mul), [.l 34, .l 35], none⟩,
    ⟨.v 7, .p .mv, [.l 36], none⟩])))
  (.reg [⟨.l 26, .p .mv, [.v 8], none⟩,
    ⟨.l 27, .p (.bin .shr), [.l 26, .k (.m (.i .u64 1))], none⟩,
    ⟨.v 8, .p .mv, [.l 27], none⟩])))
def c153_L1 : C := .loop [0, 5, 12, 25, 30] c153_B1
def c153 : F := ⟨1, [.t 2, .t 3],
  (.seq
  (.reg [⟨.v 2, .p .mv, [.k (.m (.i .u32 0))], none⟩,
    ⟨.v 3, .p .mv, [.k (.m (.i .u32 0))], none⟩])
  (.seq
  (.reg [⟨.v 4, .p .mv, [.k (.m (.i .u32 0))], none⟩])
  (.seq
  (.seq
  (.reg [⟨.v 5, .p .mv, [.k (.m (.i .i64 0))], none⟩])
  (.blk 0
  c153_L0))
  (.seq
  (.reg [⟨.v 6, .p .mv, [.k (.m (.i .u32 1))], none⟩,
    ⟨.v 7, .p .mv, [.k (.m (.i .u32 16777619))], none⟩])
  (.seq
  (.seq
  (.reg [⟨.l 22, .p .mv, [.v 0], none⟩,
    ⟨.l 23, .p (.len true), [.l 22], none⟩,
    ⟨.v 8, .p .mv, [.l 23], none⟩])
  (.blk 2
  c153_L1))
  (.seq
  (.reg [⟨.l 37, .p .mv, [.v 4], none⟩,
    ⟨.l 38, .p .mv, [.v 6], none⟩,
    ⟨.v 2, .p .mv, [.l 37], none⟩,
    ⟨.v 3, .p .mv, [.l 38], none⟩])
  .ret))))))⟩

/- gosem.cut.vars -/
def c183 : F := ⟨0, [],
  (.seq
  (.reg [⟨.l 0, .p (.build [.m (.i .u8 0), .m (.i .u8 0), .m (.i .u8 0), .m (.i .u8 0), .m (.i .u8 0), .m (.i .u8 0), .m (.i .u8 0), .m (.i .u8 0), .m (.i .u8 0), .m (.i .u8 0), .m (.i .u8 0), .m (.i .u8 0), .m (.i .u8 0), .m (.i .u8 0), .m (.i .u8 0), .m (.i .u8 0), .m (.i .u8 0), .m (.i .u8 0), .m (.i .u8 0), .m (.i .u8 0), .m (.i .u8 0), .m (.i .u8 0), .m (.i .u8 0), .m (.i .u8 0), .m (.i .u8 0), .m (.i .u8 0), .m (.i .u8 0), .m (.i .u8 0), .m (.i .u8 0), .m (.i .u8 0), .m (.i .u8 0), .m (.i .u8 0)] [(0, 1), (1, 1), (2, 1), (3, 1), (4, 1), (5, 1), (6, 1), (7, 1), (8, 1), (9, 1), (10, 1), (11, 1), (12, 1), (13, 1), (14, 1), (15, 1), (16, 1), (17, 1), (18, 1), (19, 1), (20, 1), (21, 1), (22, 1), (23, 1), (24, 1), (25, 1), (26, 1), (27, 1), (28, 1), (29, 1), (30, 1), (31, 1)]), [.k (.m (.i .u8 0)), .k (.m (.i .u8 1)), .k (.m (.i .u8 28)), .k (.m (.i .u8 2)), .k (.m (.i .u8 29)), .k (.m (.i .u8 14)), .k (.m (.i .u8 24)), .k (.m (.i .u8 3)), .k (.m (.i .u8 30)), .k (.m (.i .u8 22)), .k (.m (.i .u8 20)), .k (.m (.i .u8 15)), .k (.m (.i .u8 25)), .k (.m (.i .u8 17)), .k (.m (.i .u8 4)), .k (.m (.i .u8 8)), .k (.m (.i .u8 31)), .k (.m (.i .u8 27)), .k (.m (.i .u8 13)), .k (.m (.i .u8 23)), .k (.m (.i .u8 21)), .k (.m (.i .u8 19)), .k (.m (.i .u8 16)), .k (.m (.i .u8 7)), .k (.m (.i .u8 26)), .k (.m (.i .u8 12)), .k (.m (.i .u8 18)), .k (.m (.i .u8 6)), .k (.m (.i .u8 11)), .k (.m (.i .u8 5)), .k (.m (.i .u8 10)), .k (.m (.i .u8 9))], none⟩,
    ⟨.no, .l (.st 32), [.k (.m (.pt g6)), .l 0], none⟩])
  (.seq
  (.reg [⟨.l 1, .p (.build [.m (.i .u8 0), .m (.i .u8 0), .m (.i .u8 0), .m (.i .u8 0), .m (.i .u8 0), .m (.i .u8 0), .m (.i .u8 0), .m (.i .u8 0), .m (.i .u8 0), .m (.i .u8 0), .m (.i .u8 0), .m (.i .u8 0), .m (.i .u8 0), .m (.i .u8 0), .m (.i .u8 0), .m (.i .u8 0), .m (.i .u8 0), .m (.i .u8 0), .m (.i .u8 0), .m (.i .u8 0), .m (.i .u8 0), .m (.i .u8 0), .m (.i .u8 0), .m (.i .u8 0), .m (.i .u8 0), .m (.i .u8 0), .m (.i .u8 0), .m (.i .u8 0), .m (.i .u8 0), .m (.i .u8 0), .m (.i .u8 0), .m (.i .u8 0), .m (.i .u8 0), .m (.i .u8 0), .m (.i .u8 0), .m (.i .u8 0), .m (.i .u8 0), .m (.i .u8 0), .m (.i .u8 0), .m (.i .u8 0), .m (.i .u8 0), .m (.i .u8 0), .m (.i .u8 0), .m (.i .u8 0), .m (.i .u8 0), .m (.i .u8 0), .m (.i .u8 0), .m (.i .u8 0), .m (.i .u8 0), .m (.i .u8 0), .m (.i .u8 0), .m (.i .u8 0), .m (.i .u8 0), .m (.i .u8 0), .m (.i .u8 0), .m (.i .u8 0), .m (.i .u8 0), .m (.i .u8 0), .m (.i .u8 0), .m (.i .u8 0), .m (.i .u8 0), .m (.i .u8 0), .m (.i .u8 0), .m (.i .u8 0)] [(0, 1), (1, 1), (2, 1), (3, 1), (4, 1), (5, 1), (6, 1), (7, 1), (8, 1), (9, 1), (10, 1), (11, 1), (12, 1), (13, 1), (14, 1), (15, 1), (16, 1), (17, 1), (18, 1), (19, 1), (20, 1), (21, 1), (22, 1), (23, 1), (24, 1), (25, 1), (26, 1), (27, 1), (28, 1), (29, 1), (30, 1), (31, 1), (32, 1), (33, 1), (34, 1), (35, 1), (36, 1), (37, 1), (38, 1), (39, 1), (40, 1), (41, 1), (42, 1), (43, 1), (44, 1), (45, 1), (46, 1), (47, 1), (48, 1), (49, 1), (50, 1), (51, 1), (52, 1), (53, 1), (54, 1), (55, 1), (56, 1), (57, 1), (58, 1), (59, 1), (60, 1), (61, 1), (62, 1), (63, 1)]), [.k (.m (.i .u8 0)), .k (.m (.i .u8 1)), .k (.m (.i .u8 56)), .k (.m (.i .u8 2)), .k (.m (.i .u8 57)), .k (.m (.i .u8 49)), .k (.m (.i .u8 28)), .k (.m (.i .u8 3)), .k (.m (.i .u8 61)), .k (.m (.i .u8 58)), .k (.m (.i .u8 42)), .k (.m (.i .u8 50)), .k (.m (.i .u8 38)), .k (.m (.i .u8 29)), .k (.m (.i .u8 17)), .k (.m (.i .u8 4)), .k (.m (.i .u8 62)), .k (.m (.i .u8 47)), .k (.m (.i .u8 59)), .k (.m (.i .u8 36)), .k (.m (.i .u8 45)), .k (.m (.i .u8 43)), .k (.m (.i .u8 51)), .k (.m (.i .u8 22)), .k (.m (.i .u8 53)), .k (.m (.i .u8 39)), .k (.m (.i .u8 33)), .k (.m (.i .u8 30)), .k (.m (.i .u8 24)), .k (.m (.i .u8 18)), .k (.m (.i .u8 12)), .k (.m (.i .u8 5)), .k (.m (.i .u8 63)), .k (.m (.i .u8 55)), .k (.m (.i .u8 48)), .k (.m (.i .u8 27)), .k (.m (.i .u8 60)), .k (.m (.i .u8 41)), .k (.m (.i .u8 37)), .k (.m (.i .u8 16)), .k (.m (.i .u8 46)), .k (.m (.i .u8 35)), .k (.m (.i .u8 44)), .k (.m (.i .u8 21)), .k (.m (.i .u8 52)), .k (.m (.i .u8 32)), .k (.m (.i .u8 23)), .k (.m (.i .u8 11)), .k (.m (.i .u8 54)), .k (.m (.i .u8 26)), .k (.m (.i .u8 40)), .k (.m (.i .u8 15)), .k (.m (.i .u8 34)), .k (.m (.i .u8 20)), .k (.m (.i .u8 31)), .k (.m (.i .u8 10)), .k (.m (.i .u8 25)), .k (.m (.i .u8 14)), .k (.m (.i .u8 19)), .k (.m (.i .u8 9)), .k (.m (.i .u8 13)), .k (.m (.i .u8 8)), .k (.m (.i .u8 7)), .k (.m (.i .u8 6))], none⟩,
    ⟨.no, .l (.st 64), [.k (.m (.pt g7)), .l 1], none⟩])
  (.seq
  (.reg [⟨.l 2, .p (.build [.m (.i .u64 0), .m (.i .u64 0), .m (.i .u64 0), .m (.i .u64 0), .m (.i .u64 0), .m (.i .u64 0), .m (.i .u64 0), .m (.i .u64 0), .m (.i .u64 0), .m (.i .u64 0), .m (.i .u64 0), .m (.i .u64 0), .m (.i .u64 0), .m (.i .u64 0), .m (.i .u64 0), .m (.i .u64 0), .m (.i .u64 0), .m (.i .u64 0), .m (.i .u64 0), .m (.i .u64 0)] [(0, 1), (1, 1), (2, 1), (3, 1), (4, 1), (5, 1), (6, 1), (7, 1), (8, 1), (9, 1), (10, 1), (11, 1), (12, 1), (13, 1), (14, 1), (15, 1), (16, 1), (17, 1), (18, 1), (19, 1)]), [.k (.m (.i .u64 1)), .k (.m (.i .u64 10)), .k (.m (.i .u64 100)), .k (.m (.i .u64 1000)), .k (.m (.i .u64 10000)), .k (.m (.i .u64 100000)), .k (.m (.i .u64 1000000)), .k (.m (.i .u64 10000000)), .k (.m (.i .u64 100000000)), .k (.m (.i .u64 1000000000)), .k (.m (.i .u64 10000000000)), .k (.m (.i .u64 100000000000)), .k (.m (.i .u64 1000000000000)), .k (.m (.i .u64 10000000000000)), .k (.m (.i .u64 100000000000000)), .k (.m (.i .u64 1000000000000000)), .k (.m (.i .u64 10000000000000000)), .k (.m (.i .u64 100000000000000000)), .k (.m (.i .u64 1000000000000000000)), .k (.m (.i .u64 10000000000000000000))], none⟩,
    ⟨.no, .l (.st 20), [.k (.m (.pt g0)), .l 2], none⟩])
  (.seq
  (.reg [⟨.l 3, .p (.build [.m (.i .u8 0), .m (.i .u8 0)] [(0, 1), (1, 1)]), [.k (.m (.i .u8 128)), .k (.m (.i .u8 191))], none⟩,
    ⟨.l 4, .p (.build [.m (.i .u8 0), .m (.i .u8 0)] [(0, 1), (1, 1)]), [.k (.m (.i .u8 160)), .k (.m (.i .u8 191))], none⟩,
    ⟨.l 5, .p (.build [.m (.i .u8 0), .m (.i .u8 0)] [(0, 1), (1, 1)]), [.k (.m (.i .u8 128)), .k (.m (.i .u8 159))], none⟩,
    ⟨.l 6, .p (.build [.m (.i .u8 0), .m (.i .u8 0)] [(0, 1), (1, 1)]), [.k (.m (.i .u8 144)), .k (.m (.i .u8 191))], none⟩,
    ⟨.l 7, .p (.build [.m (.i .u8 0), .m (.i .u8 0)] [(0, 1), (1, 1)]), [.k (.m (.i .u8 128)), .k (.m (.i .u8 143))], none⟩,
    ⟨.l 8, .p (.build [.m (.i .u8 0), .m (.i .u8 0), .m (.i .u8 0), .m (.i .u8 0), .m (.i .u8 0), .m (.i .u8 0), .m (.i .u8 0), .m (.i .u8 0), .m (.i .u8 0), .m (.i .u8 0), .m (.i .u8 0), .m (.i .u8 0), .m (.i .u8 0), .m (.i .u8 0), .m (.i .u8 0), .m (.i .u8 0), .m (.i .u8 0), .m (.i .u8 0), .m (.i .u8 0), .m (.i .u8 0), .m (.i .u8 0), .m (.i .u8 0), .m (.i .u8 0), .m (.i .u8 0), .m (.i .u8 0), .m (.i .u8 0), .m (.i .u8 0), .m (.i .u8 0), .m (.i .u8 0), .m (.i .u8 0), .m (.i .u8 0), .m (.i .u8 0)] [(0, 2), (2, 2), (4, 2), (6, 2), (8, 2)]), [.l 3, .l 4, .l 5, .l 6, .l 7], none⟩,
    ⟨.no, .p .mv, [], none⟩])
  (.seq
  (.reg [⟨.l 9, .l (.cal 143), [.k (.m (.s [118, 97, 108, 117, 101, 32, 111, 117, 116, 32, 111, 102, 32, 114, 97, 110, 103, 101]))], none⟩,
    ⟨.no, .p .mv, [], none⟩])
  (.reg [⟨.l 10, .l (.cal 143), [.k (.m (.s [105, 110, 118, 97, 108, 105, 100, 32, 115, 121, 110, 116, 97, 120]))], none⟩,
    ⟨.no, .p .mv, [], none⟩]))))))⟩


end Go.Mx.Tryz
