/- The compact code of the functions of this seat, printed by a program of my own; XComp checks it against the translation. -/
import Derived.Test.YtjkepihkilnjiaaDoorMach
import Derived.Test.YtjkepihkilnjiaaDoorCode0
set_option maxRecDepth 100000
namespace Go.Mx.Tryd

/- cellular/tree.Right -/
def c73_B0 : C :=
  (.seq
  (.reg [⟨.v 77, .p (.bin .lss), [.v 76, .v 75], none⟩])
  (.seq
  (.ite (.v 77)
    .skip
    (.ex 2))
  (.seq
  (.blk 3
  (.seq
  (.reg [⟨.l 78, .p (.ixa 1), [.v 74, .v 76], none⟩,
    ⟨.l 79, .r (.ld false 1), [.l 78], none⟩,
    ⟨.v 7, .p .mv, [.l 79], none⟩])
  (.seq
  (.reg [⟨.l 80, .p .mv, [.v 7], none⟩,
    ⟨.l 81, .p (.bin .lss), [.l 80, .k (.m (.i .i64 0))], none⟩,
    ⟨.l 82, .p .mv, [.l 81], none⟩,
    ⟨.l 83, .p (.fad 0), [.v 5], some (.l 82, false)⟩,
    ⟨.l 84, .r (.ld false 1), [.l 83], some (.l 82, false)⟩,
    ⟨.l 85, .p (.bin .eql), [.l 84, .k (.m (.i .i64 1))], some (.l 82, false)⟩,
    ⟨.l 86, .p .mv, [.l 85], some (.l 82, false)⟩,
    ⟨.l 87, .p .mv, [.v 7], some (.l 86, true)⟩,
    ⟨.l 88, .p (.fad 0), [.v 1], some (.l 86, true)⟩,
    ⟨.l 89, .r (.ld false 1), [.l 88], some (.l 86, true)⟩,
    ⟨.l 90, .p (.bin .geq), [.l 87, .l 89], some (.l 86, true)⟩,
    ⟨.l 91, .p .pick, [.l 86, .l 90, .k (.m (.b false))], some (.l 82, false)⟩,
    ⟨.l 92, .p .pick, [.l 82, .k (.m (.b true)), .l 91], none⟩,
    ⟨.l 93, .p .mv, [.l 92], none⟩,
    ⟨.l 94, .p (.fad 0), [.v 5], some (.l 93, false)⟩,
    ⟨.l 95, .r (.ld false 1), [.l 94], some (.l 93, false)⟩,
    ⟨.l 96, .p (.bin .gtr), [.l 95, .k (.m (.i .i64 1))], some (.l 93, false)⟩,
    ⟨.l 97, .p .mv, [.l 96], some (.l 93, false)⟩,
    ⟨.l 98, .p .mv, [.v 7], some (.l 97, true)⟩,
    ⟨.l 99, .p .mv, [.v 4], some (.l 97, true)⟩,
    ⟨.l 100, .p (.bin .geq), [.l 98, .l 99], some (.l 97, true)⟩,
    ⟨.l 101, .p .mv, [.l 100], some (.l 97, true)⟩,
    ⟨.l 102, .p (.fad 2), [.v 1], some (.l 101, false)⟩,
    ⟨.l 103, .r (.ld false 1), [.l 102], some (.l 101, false)⟩,
    ⟨.l 104, .p .mv, [.v 7], some (.l 101, false)⟩,
    ⟨.l 105, .p (.ixa 2), [.l 103, .l 104], some (.l 101, false)⟩,
    ⟨.l 106, .p (.fad 0), [.l 105], some (.l 101, false)⟩,
    ⟨.l 107, .r (.ld false 1), [.l 106], some (.l 101, false)⟩,
    ⟨.l 108, .p (.fad 0), [.v 5], some (.l 101, false)⟩,
    ⟨.l 109, .r (.ld false 1), [.l 108], some (.l 101, false)⟩,
    ⟨.l 110, .p (.bin .sub), [.l 109, .k (.m (.i .i64 1))], some (.l 101, false)⟩,
    ⟨.l 111, .p (.bin .neq), [.l 107, .l 110], some (.l 101, false)⟩,
    ⟨.l 112, .p .pick, [.l 101, .k (.m (.b true)), .l 111], some (.l 97, true)⟩,
    ⟨.l 113, .p .pick, [.l 97, .l 112, .k (.m (.b false))], some (.l 93, false)⟩,
    ⟨.v 114, .p .pick, [.l 93, .k (.m (.b true)), .l 113], none⟩])
  (.ite (.v 114)
    (.seq
    (.reg [⟨.v 2, .p .mv, [.k (.m (.b false))], none⟩])
    .ret)
    .skip))))
  (.reg [⟨.l 115, .p (.bin .add), [.v 76, .k (.m (.i .i64 1))], none⟩,
    ⟨.v 76, .p .mv, [.l 115], none⟩]))))
def c73_L0 : C := .loop [7, 50, 72, 77, 114] c73_B0
def c73_B1 : C :=
  (.seq
  (.reg [⟨.v 50, .p (.bin .lss), [.v 49, .v 48], none⟩])
  (.seq
  (.ite (.v 50)
    .skip
    (.ex 0))
  (.seq
  (.blk 1
  (.seq
  (.reg [⟨.l 51, .p .mv, [.v 49], none⟩,
    ⟨.l 52, .p (.ixa 2), [.v 47, .v 49], none⟩,
    ⟨.l 53, .r (.ld true 2), [.l 52], none⟩,
    ⟨.v 5, .l (.alp 5 [.m (.i .i64 0), .m (.nl 4)]), [], none⟩,
    ⟨.v 4, .p .mv, [.l 51], none⟩,
    ⟨.no, .l (.st 2), [.v 5, .l 53], none⟩])
  (.seq
  (.seq
  (.reg [⟨.l 54, .p (.fad 0), [.v 5], none⟩,
    ⟨.l 55, .r (.ld false 1), [.l 54], none⟩,
    ⟨.l 56, .p (.bin .lss), [.l 55, .k (.m (.i .i64 1))], none⟩,
    ⟨.l 57, .p .mv, [.l 56], none⟩,
    ⟨.l 58, .p (.fad 0), [.v 5], some (.l 57, false)⟩,
    ⟨.l 59, .r (.ld false 1), [.l 58], some (.l 57, false)⟩,
    ⟨.l 60, .p (.fad 1), [.v 1], some (.l 57, false)⟩,
    ⟨.l 61, .r (.ld false 1), [.l 60], some (.l 57, false)⟩,
    ⟨.l 62, .p (.len false), [.l 61], some (.l 57, false)⟩,
    ⟨.l 63, .p (.bin .gtr), [.l 59, .l 62], some (.l 57, false)⟩,
    ⟨.l 64, .p .pick, [.l 57, .k (.m (.b true)), .l 63], none⟩,
    ⟨.l 65, .p .mv, [.l 64], none⟩,
    ⟨.l 66, .p (.fad 1), [.v 5], some (.l 65, false)⟩,
    ⟨.l 67, .r (.ld false 1), [.l 66], some (.l 65, false)⟩,
    ⟨.l 68, .p (.len false), [.l 67], some (.l 65, false)⟩,
    ⟨.l 69, .p (.fad 0), [.v 1], some (.l 65, false)⟩,
    ⟨.l 70, .r (.ld false 1), [.l 69], some (.l 65, false)⟩,
    ⟨.l 71, .p (.bin .neq), [.l 68, .l 70], some (.l 65, false)⟩,
    ⟨.v 72, .p .pick, [.l 65, .k (.m (.b true)), .l 71], none⟩])
  (.ite (.v 72)
    (.seq
    (.reg [⟨.v 2, .p .mv, [.k (.m (.b false))], none⟩])
    .ret)
    .skip))
  (.seq
  (.reg [⟨.l 73, .p (.fad 1), [.v 5], none⟩,
    ⟨.v 74, .r (.ld false 1), [.l 73], none⟩,
    ⟨.v 75, .p (.len false), [.v 74], none⟩,
    ⟨.v 76, .p .mv, [.k (.m (.i .i64 0))], none⟩])
  (.blk 2
  c73_L0)))))
  (.reg [⟨.l 116, .p (.bin .add), [.v 49, .k (.m (.i .i64 1))], none⟩,
    ⟨.v 49, .p .mv, [.l 116], none⟩]))))
def c73_L1 : C := .loop [0, 2, 3, 4, 5, 45, 74, 75, 76, 77] c73_B1
def c73 : F := ⟨1, [.t 2],
  (.seq
  (.reg [⟨.v 1, .l (.bxp 1 3), [.v 0], none⟩,
    ⟨.v 2, .p .mv, [.k (.m (.b false))], none⟩])
  (.seq
  (.reg [⟨.l 8, .p (.fad 2), [.v 1], none⟩,
    ⟨.l 9, .r (.ld false 1), [.l 8], none⟩,
    ⟨.l 10, .p (.len false), [.l 9], none⟩,
    ⟨.v 3, .p .mv, [.l 10], none⟩])
  (.seq
  (.seq
  (.reg [⟨.l 11, .p (.fad 0), [.v 1], none⟩,
    ⟨.l 12, .r (.ld false 1), [.l 11], none⟩,
    ⟨.l 13, .p (.bin .lss), [.l 12, .k (.m (.i .i64 2))], none⟩,
    ⟨.l 14, .p .mv, [.l 13], none⟩,
    ⟨.l 15, .p (.fad 0), [.v 1], some (.l 14, false)⟩,
    ⟨.l 16, .r (.ld false 1), [.l 15], some (.l 14, false)⟩,
    ⟨.l 17, .p (.bin .gtr), [.l 16, .k (.m (.i .i64 8))], some (.l 14, false)⟩,
    ⟨.l 18, .p .pick, [.l 14, .k (.m (.b true)), .l 17], none⟩,
    ⟨.l 19, .p .mv, [.l 18], none⟩,
    ⟨.l 20, .p (.fad 1), [.v 1], some (.l 19, false)⟩,
    ⟨.l 21, .r (.ld false 1), [.l 20], some (.l 19, false)⟩,
    ⟨.l 22, .l (.cal 82), [.l 21], some (.l 19, false)⟩,
    ⟨.l 23, .p (.un .not), [.l 22], some (.l 19, false)⟩,
    ⟨.l 24, .p .pick, [.l 19, .k (.m (.b true)), .l 23], none⟩,
    ⟨.l 25, .p .mv, [.l 24], none⟩,
    ⟨.l 26, .p .mv, [.v 3], some (.l 25, false)⟩,
    ⟨.l 27, .p (.bin .lss), [.l 26, .k (.m (.i .i64 1))], some (.l 25, false)⟩,
    ⟨.l 28, .p .pick, [.l 25, .k (.m (.b true)), .l 27], none⟩,
    ⟨.l 29, .p .mv, [.l 28], none⟩,
    ⟨.l 30, .p .mv, [.v 3], some (.l 29, false)⟩,
    ⟨.l 31, .p (.bin .gtr), [.l 30, .k (.m (.i .i64 4096))], some (.l 29, false)⟩,
    ⟨.l 32, .p .pick, [.l 29, .k (.m (.b true)), .l 31], none⟩,
    ⟨.l 33, .p .mv, [.l 32], none⟩,
    ⟨.l 34, .p (.fad 2), [.v 1], some (.l 33, false)⟩,
    ⟨.l 35, .r (.ld false 1), [.l 34], some (.l 33, false)⟩,
    ⟨.l 36, .p .mv, [.v 3], some (.l 33, false)⟩,
    ⟨.l 37, .p (.bin .sub), [.l 36, .k (.m (.i .i64 1))], some (.l 33, false)⟩,
    ⟨.l 38, .p (.ixa 2), [.l 35, .l 37], some (.l 33, false)⟩,
    ⟨.l 39, .p (.fad 0), [.l 38], some (.l 33, false)⟩,
    ⟨.l 40, .r (.ld false 1), [.l 39], some (.l 33, false)⟩,
    ⟨.l 41, .p (.fad 1), [.v 1], some (.l 33, false)⟩,
    ⟨.l 42, .r (.ld false 1), [.l 41], some (.l 33, false)⟩,
    ⟨.l 43, .p (.len false), [.l 42], some (.l 33, false)⟩,
    ⟨.l 44, .p (.bin .neq), [.l 40, .l 43], some (.l 33, false)⟩,
    ⟨.v 45, .p .pick, [.l 33, .k (.m (.b true)), .l 44], none⟩])
  (.ite (.v 45)
    (.seq
    (.reg [⟨.v 2, .p .mv, [.k (.m (.b false))], none⟩])
    .ret)
    .skip))
  (.seq
  (.seq
  (.reg [⟨.l 46, .p (.fad 2), [.v 1], none⟩,
    ⟨.v 47, .r (.ld false 1), [.l 46], none⟩,
    ⟨.v 48, .p (.len false), [.v 47], none⟩,
    ⟨.v 49, .p .mv, [.k (.m (.i .i64 0))], none⟩])
  (.blk 0
  c73_L1))
  (.seq
  (.reg [⟨.v 2, .p .mv, [.k (.m (.b true))], none⟩])
  .ret)))))⟩

/- cellular/tree.value -/
def c74_B0 : C :=
  (.seq
  (.reg [⟨.v 15, .p (.bin .lss), [.v 14, .v 13], none⟩])
  (.seq
  (.ite (.v 15)
    .skip
    (.ex 0))
  (.seq
  (.blk 1
  (.seq
  (.reg [⟨.l 16, .p (.ixa 1), [.v 12, .v 14], none⟩,
    ⟨.l 17, .r (.ld false 1), [.l 16], none⟩,
    ⟨.v 7, .p .mv, [.l 17], none⟩])
  (.reg [⟨.l 18, .p (.fad 2), [.v 2], none⟩,
    ⟨.l 19, .r (.ld false 1), [.l 18], none⟩,
    ⟨.l 20, .p .mv, [.v 5], none⟩,
    ⟨.l 21, .p (.ixa 2), [.l 19, .l 20], none⟩,
    ⟨.l 22, .p (.fad 1), [.l 21], none⟩,
    ⟨.l 23, .r (.ld false 1), [.l 22], none⟩,
    ⟨.l 24, .p .mv, [.v 7], none⟩,
    ⟨.l 25, .p (.ixa 1), [.l 23, .l 24], none⟩,
    ⟨.l 26, .r (.ld false 1), [.l 25], none⟩,
    ⟨.v 5, .p .mv, [.l 26], none⟩])))
  (.reg [⟨.l 27, .p (.bin .add), [.v 14, .k (.m (.i .i64 1))], none⟩,
    ⟨.v 14, .p .mv, [.l 27], none⟩]))))
def c74_L0 : C := .loop [0, 1, 4, 7, 15] c74_B0
def c74 : F := ⟨2, [.t 4],
  (.seq
  (.reg [⟨.v 2, .l (.bxp 2 3), [.v 0], none⟩,
    ⟨.v 4, .p .mv, [.k (.m (.i .i64 0))], none⟩])
  (.seq
  (.reg [⟨.l 8, .p (.fad 2), [.v 2], none⟩,
    ⟨.l 9, .r (.ld false 1), [.l 8], none⟩,
    ⟨.l 10, .p (.len false), [.l 9], none⟩,
    ⟨.l 11, .p (.bin .sub), [.l 10, .k (.m (.i .i64 1))], none⟩,
    ⟨.v 5, .p .mv, [.l 11], none⟩])
  (.seq
  (.seq
  (.reg [⟨.v 12, .p .mv, [.v 1], none⟩,
    ⟨.v 13, .p (.len false), [.v 12], none⟩,
    ⟨.v 14, .p .mv, [.k (.m (.i .i64 0))], none⟩])
  (.blk 0
  c74_L0))
  (.seq
  (.reg [⟨.l 28, .p .mv, [.v 5], none⟩,
    ⟨.v 4, .p .mv, [.l 28], none⟩])
  .ret))))⟩

/- slices.SortFunc[cellular/api.Pattern,cellular/api.Cell] -/
def c75 : F := ⟨2, [],
  (.seq
  (.reg [⟨.l 5, .p .mv, [.v 0], none⟩,
    ⟨.l 6, .p (.len false), [.l 5], none⟩,
    ⟨.v 4, .p .mv, [.l 6], none⟩])
  (.reg [⟨.l 7, .p .mv, [.v 0], none⟩,
    ⟨.l 8, .p .mv, [.v 4], none⟩,
    ⟨.l 9, .p .mv, [.v 4], none⟩,
    ⟨.l 10, .p (.cv .u64), [.l 9], none⟩,
    ⟨.l 11, .l (.cal 84), [.l 10], none⟩,
    ⟨.l 12, .p .mv, [.v 1], none⟩,
    ⟨.l 13, .l (.cal 83), [.l 7, .k (.m (.i .i64 0)), .l 8, .l 11, .l 12], none⟩]))⟩

/- cmp.isNaN[int] -/
def c76 : F := ⟨1, [.t 2],
  (.seq
  (.reg [⟨.v 2, .p .mv, [.k (.m (.b false))], none⟩])
  (.seq
  (.reg [⟨.l 3, .p .mv, [.v 0], none⟩,
    ⟨.l 4, .p .mv, [.v 0], none⟩,
    ⟨.l 5, .p (.bin .neq), [.l 3, .l 4], none⟩,
    ⟨.v 2, .p .mv, [.l 5], none⟩])
  .ret))⟩

/- internal/strconv.log10Pow2 -/
def c77 : F := ⟨1, [.t 2],
  (.seq
  (.reg [⟨.v 2, .p .mv, [.k (.m (.i .i64 0))], none⟩])
  (.seq
  (.reg [⟨.l 3, .p .mv, [.v 0], none⟩,
    ⟨.l 4, .p (.bin .mul), [.l 3, .k (.m (.i .i64 78913))], none⟩,
    ⟨.l 5, .p (.bin .shr), [.l 4, .k (.m (.i .u64 18))], none⟩,
    ⟨.v 2, .p .mv, [.l 5], none⟩])
  .ret))⟩

/- math/bits.Len64 -/
def c78 : F := ⟨1, [.t 2],
  (.seq
  (.reg [⟨.v 2, .p .mv, [.k (.m (.i .i64 0))], none⟩])
  (.seq
  (.seq
  (.reg [⟨.l 3, .p .mv, [.v 0], none⟩,
    ⟨.v 4, .p (.bin .geq), [.l 3, .k (.m (.i .u64 4294967296))], none⟩])
  (.ite (.v 4)
    (.seq
    (.reg [⟨.l 5, .p .mv, [.v 0], none⟩,
      ⟨.l 6, .p (.bin .shr), [.l 5, .k (.m (.i .u64 32))], none⟩,
      ⟨.v 0, .p .mv, [.l 6], none⟩])
    (.reg [⟨.v 2, .p .mv, [.k (.m (.i .i64 32))], none⟩]))
    .skip))
  (.seq
  (.seq
  (.reg [⟨.l 7, .p .mv, [.v 0], none⟩,
    ⟨.v 8, .p (.bin .geq), [.l 7, .k (.m (.i .u64 65536))], none⟩])
  (.ite (.v 8)
    (.seq
    (.reg [⟨.l 9, .p .mv, [.v 0], none⟩,
      ⟨.l 10, .p (.bin .shr), [.l 9, .k (.m (.i .u64 16))], none⟩,
      ⟨.v 0, .p .mv, [.l 10], none⟩])
    (.reg [⟨.l 11, .p .mv, [.v 2], none⟩,
      ⟨.l 12, .p (.bin .add), [.l 11, .k (.m (.i .i64 16))], none⟩,
      ⟨.v 2, .p .mv, [.l 12], none⟩]))
    .skip))
  (.seq
  (.seq
  (.reg [⟨.l 13, .p .mv, [.v 0], none⟩,
    ⟨.v 14, .p (.bin .geq), [.l 13, .k (.m (.i .u64 256))], none⟩])
  (.ite (.v 14)
    (.seq
    (.reg [⟨.l 15, .p .mv, [.v 0], none⟩,
      ⟨.l 16, .p (.bin .shr), [.l 15, .k (.m (.i .u64 8))], none⟩,
      ⟨.v 0, .p .mv, [.l 16], none⟩])
    (.reg [⟨.l 17, .p .mv, [.v 2], none⟩,
      ⟨.l 18, .p (.bin .add), [.l 17, .k (.m (.i .i64 8))], none⟩,
      ⟨.v 2, .p .mv, [.l 18], none⟩]))
    .skip))
  (.seq
  (.reg [⟨.l 19, .p .mv, [.v 2], none⟩,
    ⟨.l 20, .p .mv, [.v 0], none⟩,
    ⟨.l 21, .p (.cv .u8), [.l 20], none⟩,
    ⟨.l 22, .p .ixs, [.k (.m (.s [0, 1, 2, 2, 3, 3, 3, 3, 4, 4, 4, 4, 4, 4, 4, 4, 5, 5, 5, 5, 5, 5, 5, 5, 5, 5, 5, 5, 5, 5, 5, 5, 6, 6, 6, 6, 6, 6, 6, 6, 6, 6, 6, 6, 6, 6, 6, 6, 6, 6, 6, 6, 6, 6, 6, 6, 6, 6, 6, 6, 6, 6, 6, 6, 7, 7, 7, 7, 7, 7, 7, 7, 7, 7, 7, 7, 7, 7, 7, 7, 7, 7, 7, 7, 7, 7, 7, 7, 7, 7, 7, 7, 7, 7, 7, 7, 7, 7, 7, 7, 7, 7, 7, 7, 7, 7, 7, 7, 7, 7, 7, 7, 7, 7, 7, 7, 7, 7, 7, 7, 7, 7, 7, 7, 7, 7, 7, 7, 8, 8, 8, 8, 8, 8, 8, 8, 8, 8, 8, 8, 8, 8, 8, 8, 8, 8, 8, 8, 8, 8, 8, 8, 8, 8, 8, 8, 8, 8, 8, 8, 8, 8, 8, 8, 8, 8, 8, 8, 8, 8, 8, 8, 8, 8, 8, 8, 8, 8, 8, 8, 8, 8, 8, 8, 8, 8, 8, 8, 8, 8, 8, 8, 8, 8, 8, 8, 8, 8, 8, 8, 8, 8, 8, 8, 8, 8, 8, 8, 8, 8, 8, 8, 8, 8, 8, 8, 8, 8, 8, 8, 8, 8, 8, 8, 8, 8, 8, 8, 8, 8, 8, 8, 8, 8, 8, 8, 8, 8, 8, 8, 8, 8, 8, 8, 8, 8, 8, 8, 8, 8, 8, 8, 8, 8, 8, 8])), .l 21], none⟩,
    ⟨.l 23, .p (.cv .i64), [.l 22], none⟩,
    ⟨.l 24, .p (.bin .add), [.l 19, .l 23], none⟩,
    ⟨.v 2, .p .mv, [.l 24], none⟩])
  .ret)))))⟩

/- internal/strconv.bool2[int] -/
def c79 : F := ⟨1, [.t 2],
  (.seq
  (.reg [⟨.v 2, .p .mv, [.k (.m (.i .i64 0))], none⟩])
  (.seq
  (.seq
  (.reg [⟨.v 3, .p .mv, [.v 0], none⟩])
  (.ite (.v 3)
    (.seq
    (.reg [⟨.v 2, .p .mv, [.k (.m (.i .i64 1))], none⟩])
    .ret)
    .skip))
  (.seq
  (.reg [⟨.v 2, .p .mv, [.k (.m (.i .i64 0))], none⟩])
  .ret)))⟩

/- internal/strconv.isPowerOfTwo -/
def c80 : F := ⟨1, [.t 2],
  (.seq
  (.reg [⟨.v 2, .p .mv, [.k (.m (.b false))], none⟩])
  (.seq
  (.reg [⟨.l 3, .p .mv, [.v 0], none⟩,
    ⟨.l 4, .p .mv, [.v 0], none⟩,
    ⟨.l 5, .p (.bin .sub), [.l 4, .k (.m (.i .i64 1))], none⟩,
    ⟨.l 6, .p (.bin .and), [.l 3, .l 5], none⟩,
    ⟨.l 7, .p (.bin .eql), [.l 6, .k (.m (.i .i64 0))], none⟩,
    ⟨.v 2, .p .mv, [.l 7], none⟩])
  .ret))⟩

/- math/bits.TrailingZeros -/
def c81 : F := ⟨1, [.t 2],
  (.seq
  (.reg [⟨.v 2, .p .mv, [.k (.m (.i .i64 0))], none⟩])
  (.seq
  (.ite (.k (.m (.b false)))
    (.seq
    (.reg [⟨.l 3, .p .mv, [.v 0], none⟩,
      ⟨.l 4, .p (.cv .u32), [.l 3], none⟩,
      ⟨.l 5, .l (.cal 85), [.l 4], none⟩,
      ⟨.v 2, .p .mv, [.l 5], none⟩])
    .ret)
    .skip)
  (.seq
  (.reg [⟨.l 6, .p .mv, [.v 0], none⟩,
    ⟨.l 7, .l (.cal 86), [.l 6], none⟩,
    ⟨.v 2, .p .mv, [.l 7], none⟩])
  .ret)))⟩

/- cellular/hood.Right -/
def c82_B0 : C :=
  (.seq
  (.reg [⟨.v 16, .p (.bin .lss), [.v 15, .v 14], none⟩])
  (.seq
  (.ite (.v 16)
    .skip
    (.ex 0))
  (.seq
  (.blk 1
  (.seq
  (.reg [⟨.l 17, .p .mv, [.v 15], none⟩,
    ⟨.l 18, .p (.ixa 2), [.v 13, .v 15], none⟩,
    ⟨.l 19, .r (.ld true 2), [.l 18], none⟩,
    ⟨.v 4, .l (.alp 4 [.m (.i .i64 0), .m (.i .i64 0)]), [], none⟩,
    ⟨.v 3, .p .mv, [.l 17], none⟩,
    ⟨.no, .l (.st 2), [.v 4, .l 19], none⟩])
  (.seq
  (.reg [⟨.l 20, .p (.fad 0), [.v 4], none⟩,
    ⟨.l 21, .r (.ld false 1), [.l 20], none⟩,
    ⟨.l 22, .p (.bin .lss), [.l 21, .k (.m (.i .i64 (-2)))], none⟩,
    ⟨.l 23, .p .mv, [.l 22], none⟩,
    ⟨.l 24, .p (.fad 0), [.v 4], some (.l 23, false)⟩,
    ⟨.l 25, .r (.ld false 1), [.l 24], some (.l 23, false)⟩,
    ⟨.l 26, .p (.bin .gtr), [.l 25, .k (.m (.i .i64 2))], some (.l 23, false)⟩,
    ⟨.l 27, .p .pick, [.l 23, .k (.m (.b true)), .l 26], none⟩,
    ⟨.l 28, .p .mv, [.l 27], none⟩,
    ⟨.l 29, .p (.fad 1), [.v 4], some (.l 28, false)⟩,
    ⟨.l 30, .r (.ld false 1), [.l 29], some (.l 28, false)⟩,
    ⟨.l 31, .p (.bin .lss), [.l 30, .k (.m (.i .i64 (-2)))], some (.l 28, false)⟩,
    ⟨.l 32, .p .pick, [.l 28, .k (.m (.b true)), .l 31], none⟩,
    ⟨.l 33, .p .mv, [.l 32], none⟩,
    ⟨.l 34, .p (.fad 1), [.v 4], some (.l 33, false)⟩,
    ⟨.l 35, .r (.ld false 1), [.l 34], some (.l 33, false)⟩,
    ⟨.l 36, .p (.bin .gtr), [.l 35, .k (.m (.i .i64 2))], some (.l 33, false)⟩,
    ⟨.l 37, .p .pick, [.l 33, .k (.m (.b true)), .l 36], none⟩,
    ⟨.l 38, .p .mv, [.l 37], none⟩,
    ⟨.l 39, .p .mv, [.v 3], some (.l 38, false)⟩,
    ⟨.l 40, .p (.bin .gtr), [.l 39, .k (.m (.i .i64 0))], some (.l 38, false)⟩,
    ⟨.l 41, .p .mv, [.l 40], some (.l 38, false)⟩,
    ⟨.l 42, .p .mv, [.v 0], some (.l 41, true)⟩,
    ⟨.l 43, .p .mv, [.v 3], some (.l 41, true)⟩,
    ⟨.l 44, .p (.bin .sub), [.l 43, .k (.m (.i .i64 1))], some (.l 41, true)⟩,
    ⟨.l 45, .p (.ixa 2), [.l 42, .l 44], some (.l 41, true)⟩,
    ⟨.l 46, .r (.ld true 2), [.l 45], some (.l 41, true)⟩,
    ⟨.l 47, .r (.ld true 2), [.v 4], some (.l 41, true)⟩,
    ⟨.l 48, .l (.cal 59), [.l 46, .l 47], some (.l 41, true)⟩,
    ⟨.l 49, .p (.bin .geq), [.l 48, .k (.m (.i .i64 0))], some (.l 41, true)⟩,
    ⟨.l 50, .p .pick, [.l 41, .l 49, .k (.m (.b false))], some (.l 38, false)⟩,
    ⟨.v 51, .p .pick, [.l 38, .k (.m (.b true)), .l 50], none⟩])
  (.ite (.v 51)
    (.seq
    (.reg [⟨.v 2, .p .mv, [.k (.m (.b false))], none⟩])
    .ret)
    .skip))))
  (.reg [⟨.l 52, .p (.bin .add), [.v 15, .k (.m (.i .i64 1))], none⟩,
    ⟨.v 15, .p .mv, [.l 52], none⟩]))))
def c82_L0 : C := .loop [2, 3, 4, 12, 16, 51] c82_B0
def c82 : F := ⟨1, [.t 2],
  (.seq
  (.reg [⟨.v 2, .p .mv, [.k (.m (.b false))], none⟩])
  (.seq
  (.seq
  (.reg [⟨.l 5, .p .mv, [.v 0], none⟩,
    ⟨.l 6, .p (.len false), [.l 5], none⟩,
    ⟨.l 7, .p (.bin .lss), [.l 6, .k (.m (.i .i64 1))], none⟩,
    ⟨.l 8, .p .mv, [.l 7], none⟩,
    ⟨.l 9, .p .mv, [.v 0], some (.l 8, false)⟩,
    ⟨.l 10, .p (.len false), [.l 9], some (.l 8, false)⟩,
    ⟨.l 11, .p (.bin .gtr), [.l 10, .k (.m (.i .i64 25))], some (.l 8, false)⟩,
    ⟨.v 12, .p .pick, [.l 8, .k (.m (.b true)), .l 11], none⟩])
  (.ite (.v 12)
    (.seq
    (.reg [⟨.v 2, .p .mv, [.k (.m (.b false))], none⟩])
    .ret)
    .skip))
  (.seq
  (.seq
  (.reg [⟨.v 13, .p .mv, [.v 0], none⟩,
    ⟨.v 14, .p (.len false), [.v 13], none⟩,
    ⟨.v 15, .p .mv, [.k (.m (.i .i64 0))], none⟩])
  (.blk 0
  c82_L0))
  (.seq
  (.reg [⟨.v 2, .p .mv, [.k (.m (.b true))], none⟩])
  .ret))))⟩

/- slices.pdqsortCmpFunc[cellular/api.Cell] -/
def c83_B0 : C :=
  (.blk 1
  (.seq
  (.reg [⟨.l 21, .p .mv, [.v 2], none⟩,
    ⟨.l 22, .p .mv, [.v 1], none⟩,
    ⟨.l 23, .p (.bin .sub), [.l 21, .l 22], none⟩,
    ⟨.v 12, .p .mv, [.l 23], none⟩])
  (.seq
  (.seq
  (.reg [⟨.l 24, .p .mv, [.v 12], none⟩,
    ⟨.v 25, .p (.bin .leq), [.l 24, .k (.m (.i .i64 12))], none⟩])
  (.ite (.v 25)
    (.seq
    (.reg [⟨.l 26, .p .mv, [.v 0], none⟩,
      ⟨.l 27, .p .mv, [.v 1], none⟩,
      ⟨.l 28, .p .mv, [.v 2], none⟩,
      ⟨.l 29, .p .mv, [.v 4], none⟩,
      ⟨.l 30, .l (.cal 87), [.l 26, .l 27, .l 28, .l 29], none⟩])
    .ret)
    .skip))
  (.seq
  (.seq
  (.reg [⟨.l 31, .p .mv, [.v 3], none⟩,
    ⟨.v 32, .p (.bin .eql), [.l 31, .k (.m (.i .i64 0))], none⟩])
  (.ite (.v 32)
    (.seq
    (.reg [⟨.l 33, .p .mv, [.v 0], none⟩,
      ⟨.l 34, .p .mv, [.v 1], none⟩,
      ⟨.l 35, .p .mv, [.v 2], none⟩,
      ⟨.l 36, .p .mv, [.v 4], none⟩,
      ⟨.l 37, .l (.cal 88), [.l 33, .l 34, .l 35, .l 36], none⟩])
    .ret)
    .skip))
  (.seq
  (.seq
  (.reg [⟨.l 38, .p .mv, [.v 10], none⟩,
    ⟨.v 39, .p (.un .not), [.l 38], none⟩])
  (.ite (.v 39)
    (.seq
    (.reg [⟨.l 40, .p .mv, [.v 0], none⟩,
      ⟨.l 41, .p .mv, [.v 1], none⟩,
      ⟨.l 42, .p .mv, [.v 2], none⟩,
      ⟨.l 43, .p .mv, [.v 4], none⟩,
      ⟨.l 44, .l (.cal 89), [.l 40, .l 41, .l 42, .l 43], none⟩])
    (.reg [⟨.l 45, .p .mv, [.v 3], none⟩,
      ⟨.l 46, .p (.bin .sub), [.l 45, .k (.m (.i .i64 1))], none⟩,
      ⟨.v 3, .p .mv, [.l 46], none⟩]))
    .skip))
  (.seq
  (.reg [⟨.l 48, .p .mv, [.v 0], none⟩,
    ⟨.l 49, .p .mv, [.v 1], none⟩,
    ⟨.l 50, .p .mv, [.v 2], none⟩,
    ⟨.l 51, .p .mv, [.v 4], none⟩,
    ⟨.l 52, .l (.cal 90), [.l 48, .l 49, .l 50, .l 51], none⟩,
    ⟨.l 47, .p .mv, [.l 52], none⟩,
    ⟨.l 53, .p (.ext 0), [.l 47], none⟩,
    ⟨.l 54, .p (.ext 1), [.l 47], none⟩,
    ⟨.v 13, .p .mv, [.l 53], none⟩,
    ⟨.v 14, .p .mv, [.l 54], none⟩])
  (.seq
  (.seq
  (.reg [⟨.l 55, .p .mv, [.v 14], none⟩,
    ⟨.v 56, .p (.bin .eql), [.l 55, .k (.m (.i .i64 2))], none⟩])
  (.ite (.v 56)
    (.seq
    (.reg [⟨.l 57, .p .mv, [.v 0], none⟩,
      ⟨.l 58, .p .mv, [.v 1], none⟩,
      ⟨.l 59, .p .mv, [.v 2], none⟩,
      ⟨.l 60, .p .mv, [.v 4], none⟩,
      ⟨.l 61, .l (.cal 91), [.l 57, .l 58, .l 59, .l 60], none⟩])
    (.seq
    (.reg [⟨.l 62, .p .mv, [.v 2], none⟩,
      ⟨.l 63, .p (.bin .sub), [.l 62, .k (.m (.i .i64 1))], none⟩,
      ⟨.l 64, .p .mv, [.v 13], none⟩,
      ⟨.l 65, .p .mv, [.v 1], none⟩,
      ⟨.l 66, .p (.bin .sub), [.l 64, .l 65], none⟩,
      ⟨.l 67, .p (.bin .sub), [.l 63, .l 66], none⟩,
      ⟨.v 13, .p .mv, [.l 67], none⟩])
    (.reg [⟨.v 14, .p .mv, [.k (.m (.i .i64 1))], none⟩])))
    .skip))
  (.seq
  (.seq
  (.reg [⟨.l 68, .p .mv, [.v 10], none⟩,
    ⟨.l 69, .p .mv, [.l 68], none⟩,
    ⟨.l 70, .p .mv, [.v 11], some (.l 69, true)⟩,
    ⟨.l 71, .p .pick, [.l 69, .l 70, .k (.m (.b false))], none⟩,
    ⟨.l 72, .p .mv, [.l 71], none⟩,
    ⟨.l 73, .p .mv, [.v 14], some (.l 72, true)⟩,
    ⟨.l 74, .p (.bin .eql), [.l 73, .k (.m (.i .i64 1))], some (.l 72, true)⟩,
    ⟨.v 75, .p .pick, [.l 72, .l 74, .k (.m (.b false))], none⟩])
  (.ite (.v 75)
    (.seq
    (.reg [⟨.l 76, .p .mv, [.v 0], none⟩,
      ⟨.l 77, .p .mv, [.v 1], none⟩,
      ⟨.l 78, .p .mv, [.v 2], none⟩,
      ⟨.l 79, .p .mv, [.v 4], none⟩,
      ⟨.v 80, .l (.cal 92), [.l 76, .l 77, .l 78, .l 79], none⟩])
    (.ite (.v 80)
      .ret
      .skip))
    .skip))
  (.seq
  (.seq
  (.reg [⟨.l 81, .p .mv, [.v 1], none⟩,
    ⟨.l 82, .p (.bin .gtr), [.l 81, .k (.m (.i .i64 0))], none⟩,
    ⟨.l 83, .p .mv, [.l 82], none⟩,
    ⟨.l 84, .p .mv, [.v 4], some (.l 83, true)⟩,
    ⟨.l 85, .p .mv, [.v 0], some (.l 83, true)⟩,
    ⟨.l 86, .p .mv, [.v 1], some (.l 83, true)⟩,
    ⟨.l 87, .p (.bin .sub), [.l 86, .k (.m (.i .i64 1))], some (.l 83, true)⟩,
    ⟨.l 88, .p (.ixa 3), [.l 85, .l 87], some (.l 83, true)⟩,
    ⟨.l 89, .r (.ld true 3), [.l 88], some (.l 83, true)⟩,
    ⟨.l 90, .p .mv, [.v 0], some (.l 83, true)⟩,
    ⟨.l 91, .p .mv, [.v 13], some (.l 83, true)⟩,
    ⟨.l 92, .p (.ixa 3), [.l 90, .l 91], some (.l 83, true)⟩,
    ⟨.l 93, .r (.ld true 3), [.l 92], some (.l 83, true)⟩,
    ⟨.l 94, .l .cav, [.l 84, .l 89, .l 93], some (.l 83, true)⟩,
    ⟨.l 95, .p (.bin .lss), [.l 94, .k (.m (.i .i64 0))], some (.l 83, true)⟩,
    ⟨.l 96, .p (.un .not), [.l 95], some (.l 83, true)⟩,
    ⟨.v 97, .p .pick, [.l 83, .l 96, .k (.m (.b false))], none⟩])
  (.ite (.v 97)
    (.seq
    (.reg [⟨.l 98, .p .mv, [.v 0], none⟩,
      ⟨.l 99, .p .mv, [.v 1], none⟩,
      ⟨.l 100, .p .mv, [.v 2], none⟩,
      ⟨.l 101, .p .mv, [.v 13], none⟩,
      ⟨.l 102, .p .mv, [.v 4], none⟩,
      ⟨.l 103, .l (.cal 93), [.l 98, .l 99, .l 100, .l 101, .l 102], none⟩,
      ⟨.v 15, .p .mv, [.l 103], none⟩])
    (.seq
    (.reg [⟨.l 104, .p .mv, [.v 15], none⟩,
      ⟨.v 1, .p .mv, [.l 104], none⟩])
    (.ex 1)))
    .skip))
  (.seq
  (.reg [⟨.l 106, .p .mv, [.v 0], none⟩,
    ⟨.l 107, .p .mv, [.v 1], none⟩,
    ⟨.l 108, .p .mv, [.v 2], none⟩,
    ⟨.l 109, .p .mv, [.v 13], none⟩,
    ⟨.l 110, .p .mv, [.v 4], none⟩,
    ⟨.l 111, .l (.cal 94), [.l 106, .l 107, .l 108, .l 109, .l 110], none⟩,
    ⟨.l 105, .p .mv, [.l 111], none⟩,
    ⟨.l 112, .p (.ext 0), [.l 105], none⟩,
    ⟨.l 113, .p (.ext 1), [.l 105], none⟩,
    ⟨.v 16, .p .mv, [.l 112], none⟩,
    ⟨.v 17, .p .mv, [.l 113], none⟩])
  (.seq
  (.reg [⟨.l 114, .p .mv, [.v 17], none⟩,
    ⟨.v 11, .p .mv, [.l 114], none⟩])
  (.seq
  (.reg [⟨.l 115, .p .mv, [.v 16], none⟩,
    ⟨.l 116, .p .mv, [.v 1], none⟩,
    ⟨.l 117, .p (.bin .sub), [.l 115, .l 116], none⟩,
    ⟨.l 118, .p .mv, [.v 2], none⟩,
    ⟨.l 119, .p .mv, [.v 16], none⟩,
    ⟨.l 120, .p (.bin .sub), [.l 118, .l 119], none⟩,
    ⟨.v 18, .p .mv, [.l 117], none⟩,
    ⟨.v 19, .p .mv, [.l 120], none⟩])
  (.seq
  (.reg [⟨.l 121, .p .mv, [.v 12], none⟩,
    ⟨.l 122, .p (.bin .quo), [.l 121, .k (.m (.i .i64 8))], none⟩,
    ⟨.v 20, .p .mv, [.l 122], none⟩])
  (.seq
  (.reg [⟨.l 123, .p .mv, [.v 18], none⟩,
    ⟨.l 124, .p .mv, [.v 19], none⟩,
    ⟨.v 125, .p (.bin .lss), [.l 123, .l 124], none⟩])
  (.ite (.v 125)
    (.seq
    (.reg [⟨.l 126, .p .mv, [.v 18], none⟩,
      ⟨.l 127, .p .mv, [.v 20], none⟩,
      ⟨.l 128, .p (.bin .geq), [.l 126, .l 127], none⟩,
      ⟨.v 10, .p .mv, [.l 128], none⟩])
    (.seq
    (.reg [⟨.l 129, .p .mv, [.v 0], none⟩,
      ⟨.l 130, .p .mv, [.v 1], none⟩,
      ⟨.l 131, .p .mv, [.v 16], none⟩,
      ⟨.l 132, .p .mv, [.v 3], none⟩,
      ⟨.l 133, .p .mv, [.v 4], none⟩,
      ⟨.l 134, .l (.cal 83), [.l 129, .l 130, .l 131, .l 132, .l 133], none⟩])
    (.reg [⟨.l 135, .p .mv, [.v 16], none⟩,
      ⟨.l 136, .p (.bin .add), [.l 135, .k (.m (.i .i64 1))], none⟩,
      ⟨.v 1, .p .mv, [.l 136], none⟩])))
    (.seq
    (.reg [⟨.l 137, .p .mv, [.v 19], none⟩,
      ⟨.l 138, .p .mv, [.v 20], none⟩,
      ⟨.l 139, .p (.bin .geq), [.l 137, .l 138], none⟩,
      ⟨.v 10, .p .mv, [.l 139], none⟩])
    (.seq
    (.reg [⟨.l 140, .p .mv, [.v 0], none⟩,
      ⟨.l 141, .p .mv, [.v 16], none⟩,
      ⟨.l 142, .p (.bin .add), [.l 141, .k (.m (.i .i64 1))], none⟩,
      ⟨.l 143, .p .mv, [.v 2], none⟩,
      ⟨.l 144, .p .mv, [.v 3], none⟩,
      ⟨.l 145, .p .mv, [.v 4], none⟩,
      ⟨.l 146, .l (.cal 83), [.l 140, .l 142, .l 143, .l 144, .l 145], none⟩])
    (.reg [⟨.l 147, .p .mv, [.v 16], none⟩,
      ⟨.v 2, .p .mv, [.l 147], none⟩]))))))))))))))))))
def c83_L0 : C := .loop [12, 13, 14, 15, 16, 17, 18, 19, 20, 25, 32, 39, 56, 75, 80, 97, 125] c83_B0
def c83 : F := ⟨5, [],
  (.seq
  (.reg [⟨.v 10, .p .mv, [.k (.m (.b true))], none⟩])
  (.seq
  (.reg [⟨.v 11, .p .mv, [.k (.m (.b true))], none⟩])
  (.blk 0
  c83_L0)))⟩

/- math/bits.Len -/
def c84 : F := ⟨1, [.t 2],
  (.seq
  (.reg [⟨.v 2, .p .mv, [.k (.m (.i .i64 0))], none⟩])
  (.seq
  (.ite (.k (.m (.b false)))
    (.seq
    (.reg [⟨.l 3, .p .mv, [.v 0], none⟩,
      ⟨.l 4, .p (.cv .u32), [.l 3], none⟩,
      ⟨.l 5, .l (.cal 95), [.l 4], none⟩,
      ⟨.v 2, .p .mv, [.l 5], none⟩])
    .ret)
    .skip)
  (.seq
  (.reg [⟨.l 6, .p .mv, [.v 0], none⟩,
    ⟨.l 7, .l (.cal 78), [.l 6], none⟩,
    ⟨.v 2, .p .mv, [.l 7], none⟩])
  .ret)))⟩

/- math/bits.TrailingZeros32 -/
def c85 : F := ⟨1, [.t 2],
  (.seq
  (.reg [⟨.v 2, .p .mv, [.k (.m (.i .i64 0))], none⟩])
  (.seq
  (.seq
  (.reg [⟨.l 3, .p .mv, [.v 0], none⟩,
    ⟨.v 4, .p (.bin .eql), [.l 3, .k (.m (.i .u32 0))], none⟩])
  (.ite (.v 4)
    (.seq
    (.reg [⟨.v 2, .p .mv, [.k (.m (.i .i64 32))], none⟩])
    .ret)
    .skip))
  (.seq
  (.reg [⟨.l 5, .p .mv, [.v 0], none⟩,
    ⟨.l 6, .p .mv, [.v 0], none⟩,
    ⟨.l 7, .p (.un .neg), [.l 6], none⟩,
    ⟨.l 8, .p (.bin .and), [.l 5, .l 7], none⟩,
    ⟨.l 9, .p (.bin .mul), [.l 8, .k (.m (.i .u32 125613361))], none⟩,
    ⟨.l 10, .p (.bin .shr), [.l 9, .k (.m (.i .u64 27))], none⟩,
    ⟨.l 11, .p (.ixaA 32 1), [.k (.m (.pt g1)), .l 10], none⟩,
    ⟨.l 12, .r (.ld false 1), [.l 11], none⟩,
    ⟨.l 13, .p (.cv .i64), [.l 12], none⟩,
    ⟨.v 2, .p .mv, [.l 13], none⟩])
  .ret)))⟩

/- math/bits.TrailingZeros64 -/
def c86 : F := ⟨1, [.t 2],
  (.seq
  (.reg [⟨.v 2, .p .mv, [.k (.m (.i .i64 0))], none⟩])
  (.seq
  (.seq
  (.reg [⟨.l 3, .p .mv, [.v 0], none⟩,
    ⟨.v 4, .p (.bin .eql), [.l 3, .k (.m (.i .u64 0))], none⟩])
  (.ite (.v 4)
    (.seq
    (.reg [⟨.v 2, .p .mv, [.k (.m (.i .i64 64))], none⟩])
    .ret)
    .skip))
  (.seq
  (.reg [⟨.l 5, .p .mv, [.v 0], none⟩,
    ⟨.l 6, .p .mv, [.v 0], none⟩,
    ⟨.l 7, .p (.un .neg), [.l 6], none⟩,
    ⟨.l 8, .p (.bin .and), [.l 5, .l 7], none⟩,
    ⟨.l 9, .p (.bin .mul), [.l 8, .k (.m (.i .u64 285870213051353865))], none⟩,
    ⟨.l 10, .p (.bin .shr), [.l 9, .k (.m (.i .u64 58))], none⟩,
    ⟨.l 11, .p (.ixaA 64 1), [.k (.m (.pt g2)), .l 10], none⟩,
    ⟨.l 12, .r (.ld false 1), [.l 11], none⟩,
    ⟨.l 13, .p (.cv .i64), [.l 12], none⟩,
    ⟨.v 2, .p .mv, [.l 13], none⟩])
  .ret)))⟩

/- slices.insertionSortCmpFunc[cellular/api.Cell] -/
def c87_B0 : C :=
  (.seq
  (.seq
  (.reg [⟨.l 18, .p .mv, [.v 9], none⟩,
    ⟨.l 19, .p .mv, [.v 1], none⟩,
    ⟨.l 20, .p (.bin .gtr), [.l 18, .l 19], none⟩,
    ⟨.l 21, .p .mv, [.l 20], none⟩,
    ⟨.l 22, .p .mv, [.v 3], some (.l 21, true)⟩,
    ⟨.l 23, .p .mv, [.v 0], some (.l 21, true)⟩,
    ⟨.l 24, .p .mv, [.v 9], some (.l 21, true)⟩,
    ⟨.l 25, .p (.ixa 3), [.l 23, .l 24], some (.l 21, true)⟩,
    ⟨.l 26, .r (.ld true 3), [.l 25], some (.l 21, true)⟩,
    ⟨.l 27, .p .mv, [.v 0], some (.l 21, true)⟩,
    ⟨.l 28, .p .mv, [.v 9], some (.l 21, true)⟩,
    ⟨.l 29, .p (.bin .sub), [.l 28, .k (.m (.i .i64 1))], some (.l 21, true)⟩,
    ⟨.l 30, .p (.ixa 3), [.l 27, .l 29], some (.l 21, true)⟩,
    ⟨.l 31, .r (.ld true 3), [.l 30], some (.l 21, true)⟩,
    ⟨.l 32, .l .cav, [.l 22, .l 26, .l 31], some (.l 21, true)⟩,
    ⟨.l 33, .p (.bin .lss), [.l 32, .k (.m (.i .i64 0))], some (.l 21, true)⟩,
    ⟨.v 34, .p .pick, [.l 21, .l 33, .k (.m (.b false))], none⟩])
  (.ite (.v 34)
    .skip
    (.ex 2)))
  (.seq
  (.blk 3
  (.reg [⟨.l 37, .p .mv, [.v 0], none⟩,
    ⟨.l 38, .p .mv, [.v 9], none⟩,
    ⟨.l 39, .p .mv, [.v 0], none⟩,
    ⟨.l 40, .p .mv, [.v 9], none⟩,
    ⟨.l 41, .p (.bin .sub), [.l 40, .k (.m (.i .i64 1))], none⟩,
    ⟨.l 42, .p .mv, [.v 0], none⟩,
    ⟨.l 43, .p .mv, [.v 9], none⟩,
    ⟨.l 44, .p (.bin .sub), [.l 43, .k (.m (.i .i64 1))], none⟩,
    ⟨.l 45, .p (.ixa 3), [.l 42, .l 44], none⟩,
    ⟨.l 46, .r (.ld true 3), [.l 45], none⟩,
    ⟨.l 47, .p .mv, [.v 0], none⟩,
    ⟨.l 48, .p .mv, [.v 9], none⟩,
    ⟨.l 49, .p (.ixa 3), [.l 47, .l 48], none⟩,
    ⟨.l 50, .r (.ld true 3), [.l 49], none⟩,
    ⟨.l 51, .p (.ixa 3), [.l 37, .l 38], none⟩,
    ⟨.no, .l (.st 3), [.l 51, .l 46], none⟩,
    ⟨.l 52, .p (.ixa 3), [.l 39, .l 41], none⟩,
    ⟨.no, .l (.st 3), [.l 52, .l 50], none⟩]))
  (.reg [⟨.l 35, .p .mv, [.v 9], none⟩,
    ⟨.l 36, .p (.bin .sub), [.l 35, .k (.m (.i .i64 1))], none⟩,
    ⟨.v 9, .p .mv, [.l 36], none⟩])))
def c87_L0 : C := .loop [14, 34] c87_B0
def c87_B1 : C :=
  (.seq
  (.seq
  (.reg [⟨.l 12, .p .mv, [.v 8], none⟩,
    ⟨.l 13, .p .mv, [.v 2], none⟩,
    ⟨.v 14, .p (.bin .lss), [.l 12, .l 13], none⟩])
  (.ite (.v 14)
    .skip
    (.ex 0)))
  (.seq
  (.blk 1
  (.seq
  (.reg [⟨.l 17, .p .mv, [.v 8], none⟩,
    ⟨.v 9, .p .mv, [.l 17], none⟩])
  (.blk 2
  c87_L0)))
  (.reg [⟨.l 15, .p .mv, [.v 8], none⟩,
    ⟨.l 16, .p (.bin .add), [.l 15, .k (.m (.i .i64 1))], none⟩,
    ⟨.v 8, .p .mv, [.l 16], none⟩])))
def c87_L1 : C := .loop [9, 34] c87_B1
def c87 : F := ⟨4, [],
  (.seq
  (.reg [⟨.l 10, .p .mv, [.v 1], none⟩,
    ⟨.l 11, .p (.bin .add), [.l 10, .k (.m (.i .i64 1))], none⟩,
    ⟨.v 8, .p .mv, [.l 11], none⟩])
  (.blk 0
  c87_L1))⟩

/- slices.heapSortCmpFunc[cellular/api.Cell] -/
def c88_B0 : C :=
  (.seq
  (.seq
  (.reg [⟨.l 20, .p .mv, [.v 11], none⟩,
    ⟨.v 21, .p (.bin .geq), [.l 20, .k (.m (.i .i64 0))], none⟩])
  (.ite (.v 21)
    .skip
    (.ex 0)))
  (.seq
  (.blk 1
  (.reg [⟨.l 24, .p .mv, [.v 0], none⟩,
    ⟨.l 25, .p .mv, [.v 11], none⟩,
    ⟨.l 26, .p .mv, [.v 10], none⟩,
    ⟨.l 27, .p .mv, [.v 8], none⟩,
    ⟨.l 28, .p .mv, [.v 3], none⟩,
    ⟨.l 29, .l (.cal 96), [.l 24, .l 25, .l 26, .l 27, .l 28], none⟩]))
  (.reg [⟨.l 22, .p .mv, [.v 11], none⟩,
    ⟨.l 23, .p (.bin .sub), [.l 22, .k (.m (.i .i64 1))], none⟩,
    ⟨.v 11, .p .mv, [.l 23], none⟩])))
def c88_L0 : C := .loop [1, 2, 21] c88_B0
def c88_B1 : C :=
  (.seq
  (.seq
  (.reg [⟨.l 32, .p .mv, [.v 12], none⟩,
    ⟨.v 33, .p (.bin .geq), [.l 32, .k (.m (.i .i64 0))], none⟩])
  (.ite (.v 33)
    .skip
    (.ex 2)))
  (.seq
  (.blk 3
  (.seq
  (.reg [⟨.l 36, .p .mv, [.v 0], none⟩,
    ⟨.l 37, .p .mv, [.v 8], none⟩,
    ⟨.l 38, .p .mv, [.v 0], none⟩,
    ⟨.l 39, .p .mv, [.v 8], none⟩,
    ⟨.l 40, .p .mv, [.v 12], none⟩,
    ⟨.l 41, .p (.bin .add), [.l 39, .l 40], none⟩,
    ⟨.l 42, .p .mv, [.v 0], none⟩,
    ⟨.l 43, .p .mv, [.v 8], none⟩,
    ⟨.l 44, .p .mv, [.v 12], none⟩,
    ⟨.l 45, .p (.bin .add), [.l 43, .l 44], none⟩,
    ⟨.l 46, .p (.ixa 3), [.l 42, .l 45], none⟩,
    ⟨.l 47, .r (.ld true 3), [.l 46], none⟩,
    ⟨.l 48, .p .mv, [.v 0], none⟩,
    ⟨.l 49, .p .mv, [.v 8], none⟩,
    ⟨.l 50, .p (.ixa 3), [.l 48, .l 49], none⟩,
    ⟨.l 51, .r (.ld true 3), [.l 50], none⟩,
    ⟨.l 52, .p (.ixa 3), [.l 36, .l 37], none⟩,
    ⟨.no, .l (.st 3), [.l 52, .l 47], none⟩,
    ⟨.l 53, .p (.ixa 3), [.l 38, .l 41], none⟩,
    ⟨.no, .l (.st 3), [.l 53, .l 51], none⟩])
  (.reg [⟨.l 54, .p .mv, [.v 0], none⟩,
    ⟨.l 55, .p .mv, [.v 9], none⟩,
    ⟨.l 56, .p .mv, [.v 12], none⟩,
    ⟨.l 57, .p .mv, [.v 8], none⟩,
    ⟨.l 58, .p .mv, [.v 3], none⟩,
    ⟨.l 59, .l (.cal 96), [.l 54, .l 55, .l 56, .l 57, .l 58], none⟩])))
  (.reg [⟨.l 34, .p .mv, [.v 12], none⟩,
    ⟨.l 35, .p (.bin .sub), [.l 34, .k (.m (.i .i64 1))], none⟩,
    ⟨.v 12, .p .mv, [.l 35], none⟩])))
def c88_L1 : C := .loop [10, 11, 21, 33] c88_B1
def c88 : F := ⟨4, [],
  (.seq
  (.reg [⟨.l 13, .p .mv, [.v 1], none⟩,
    ⟨.v 8, .p .mv, [.l 13], none⟩])
  (.seq
  (.reg [⟨.v 9, .p .mv, [.k (.m (.i .i64 0))], none⟩])
  (.seq
  (.reg [⟨.l 14, .p .mv, [.v 2], none⟩,
    ⟨.l 15, .p .mv, [.v 1], none⟩,
    ⟨.l 16, .p (.bin .sub), [.l 14, .l 15], none⟩,
    ⟨.v 10, .p .mv, [.l 16], none⟩])
  (.seq
  (.seq
  (.reg [⟨.l 17, .p .mv, [.v 10], none⟩,
    ⟨.l 18, .p (.bin .sub), [.l 17, .k (.m (.i .i64 1))], none⟩,
    ⟨.l 19, .p (.bin .quo), [.l 18, .k (.m (.i .i64 2))], none⟩,
    ⟨.v 11, .p .mv, [.l 19], none⟩])
  (.blk 0
  c88_L0))
  (.seq
  (.reg [⟨.l 30, .p .mv, [.v 10], none⟩,
    ⟨.l 31, .p (.bin .sub), [.l 30, .k (.m (.i .i64 1))], none⟩,
    ⟨.v 12, .p .mv, [.l 31], none⟩])
  (.blk 2
  c88_L1))))))⟩

/- slices.breakPatternsCmpFunc[cellular/api.Cell] -/
def c89_B0 : C :=
  (.seq
  (.seq
  (.reg [⟨.l 28, .p .mv, [.v 11], none⟩,
    ⟨.l 29, .p .mv, [.v 1], none⟩,
    ⟨.l 30, .p .mv, [.v 8], none⟩,
    ⟨.l 31, .p (.bin .quo), [.l 30, .k (.m (.i .i64 4))], none⟩,
    ⟨.l 32, .p (.bin .mul), [.l 31, .k (.m (.i .i64 2))], none⟩,
    ⟨.l 33, .p (.bin .add), [.l 29, .l 32], none⟩,
    ⟨.l 34, .p (.bin .add), [.l 33, .k (.m (.i .i64 1))], none⟩,
    ⟨.v 35, .p (.bin .leq), [.l 28, .l 34], none⟩])
  (.ite (.v 35)
    .skip
    (.ex 0)))
  (.seq
  (.blk 1
  (.seq
  (.reg [⟨.l 38, .l (.cal 98), [.v 9], none⟩,
    ⟨.l 39, .p .mv, [.v 10], none⟩,
    ⟨.l 40, .p (.bin .sub), [.l 39, .k (.m (.i .u64 1))], none⟩,
    ⟨.l 41, .p (.bin .and), [.l 38, .l 40], none⟩,
    ⟨.l 42, .p (.cv .i64), [.l 41], none⟩,
    ⟨.v 12, .p .mv, [.l 42], none⟩])
  (.seq
  (.seq
  (.reg [⟨.l 43, .p .mv, [.v 12], none⟩,
    ⟨.l 44, .p .mv, [.v 8], none⟩,
    ⟨.v 45, .p (.bin .geq), [.l 43, .l 44], none⟩])
  (.ite (.v 45)
    (.reg [⟨.l 46, .p .mv, [.v 12], none⟩,
      ⟨.l 47, .p .mv, [.v 8], none⟩,
      ⟨.l 48, .p (.bin .sub), [.l 46, .l 47], none⟩,
      ⟨.v 12, .p .mv, [.l 48], none⟩])
    .skip))
  (.reg [⟨.l 49, .p .mv, [.v 0], none⟩,
    ⟨.l 50, .p .mv, [.v 11], none⟩,
    ⟨.l 51, .p .mv, [.v 0], none⟩,
    ⟨.l 52, .p .mv, [.v 1], none⟩,
    ⟨.l 53, .p .mv, [.v 12], none⟩,
    ⟨.l 54, .p (.bin .add), [.l 52, .l 53], none⟩,
    ⟨.l 55, .p .mv, [.v 0], none⟩,
    ⟨.l 56, .p .mv, [.v 1], none⟩,
    ⟨.l 57, .p .mv, [.v 12], none⟩,
    ⟨.l 58, .p (.bin .add), [.l 56, .l 57], none⟩,
    ⟨.l 59, .p (.ixa 3), [.l 55, .l 58], none⟩,
    ⟨.l 60, .r (.ld true 3), [.l 59], none⟩,
    ⟨.l 61, .p .mv, [.v 0], none⟩,
    ⟨.l 62, .p .mv, [.v 11], none⟩,
    ⟨.l 63, .p (.ixa 3), [.l 61, .l 62], none⟩,
    ⟨.l 64, .r (.ld true 3), [.l 63], none⟩,
    ⟨.l 65, .p (.ixa 3), [.l 49, .l 50], none⟩,
    ⟨.no, .l (.st 3), [.l 65, .l 60], none⟩,
    ⟨.l 66, .p (.ixa 3), [.l 51, .l 54], none⟩,
    ⟨.no, .l (.st 3), [.l 66, .l 64], none⟩]))))
  (.reg [⟨.l 36, .p .mv, [.v 11], none⟩,
    ⟨.l 37, .p (.bin .add), [.l 36, .k (.m (.i .i64 1))], none⟩,
    ⟨.v 11, .p .mv, [.l 37], none⟩])))
def c89_L0 : C := .loop [2, 3, 12, 17, 35, 45] c89_B0
def c89 : F := ⟨4, [],
  (.seq
  (.reg [⟨.l 13, .p .mv, [.v 2], none⟩,
    ⟨.l 14, .p .mv, [.v 1], none⟩,
    ⟨.l 15, .p (.bin .sub), [.l 13, .l 14], none⟩,
    ⟨.v 8, .p .mv, [.l 15], none⟩])
  (.seq
  (.reg [⟨.l 16, .p .mv, [.v 8], none⟩,
    ⟨.v 17, .p (.bin .geq), [.l 16, .k (.m (.i .i64 8))], none⟩])
  (.ite (.v 17)
    (.seq
    (.reg [⟨.l 18, .p .mv, [.v 8], none⟩,
      ⟨.l 19, .p (.cv .u64), [.l 18], none⟩,
      ⟨.v 9, .l (.als 137 1 1 [.m (.i .u64 0)]), [], none⟩,
      ⟨.no, .l (.st 1), [.v 9, .l 19], none⟩])
    (.seq
    (.reg [⟨.l 20, .p .mv, [.v 8], none⟩,
      ⟨.l 21, .l (.cal 97), [.l 20], none⟩,
      ⟨.v 10, .p .mv, [.l 21], none⟩])
    (.seq
    (.reg [⟨.l 22, .p .mv, [.v 1], none⟩,
      ⟨.l 23, .p .mv, [.v 8], none⟩,
      ⟨.l 24, .p (.bin .quo), [.l 23, .k (.m (.i .i64 4))], none⟩,
      ⟨.l 25, .p (.bin .mul), [.l 24, .k (.m (.i .i64 2))], none⟩,
      ⟨.l 26, .p (.bin .add), [.l 22, .l 25], none⟩,
      ⟨.l 27, .p (.bin .sub), [.l 26, .k (.m (.i .i64 1))], none⟩,
      ⟨.v 11, .p .mv, [.l 27], none⟩])
    (.blk 0
    c89_L0))))
    .skip)))⟩

/- slices.choosePivotCmpFunc[cellular/api.Cell] -/
def c90 : F := ⟨4, [.t 8, .t 9],
  (.seq
  (.reg [⟨.v 8, .p .mv, [.k (.m (.i .i64 0))], none⟩,
    ⟨.v 9, .p .mv, [.k (.m (.i .i64 0))], none⟩])
  (.seq
  (.reg [⟨.l 15, .p .mv, [.v 2], none⟩,
    ⟨.l 16, .p .mv, [.v 1], none⟩,
    ⟨.l 17, .p (.bin .sub), [.l 15, .l 16], none⟩,
    ⟨.v 10, .p .mv, [.l 17], none⟩])
  (.seq
  (.reg [⟨.v 11, .l (.als 3 1 1 [.m (.i .i64 0)]), [], none⟩])
  (.seq
  (.reg [⟨.l 18, .p .mv, [.v 1], none⟩,
    ⟨.l 19, .p .mv, [.v 10], none⟩,
    ⟨.l 20, .p (.bin .quo), [.l 19, .k (.m (.i .i64 4))], none⟩,
    ⟨.l 21, .p (.bin .mul), [.l 20, .k (.m (.i .i64 1))], none⟩,
    ⟨.l 22, .p (.bin .add), [.l 18, .l 21], none⟩,
    ⟨.v 12, .p .mv, [.l 22], none⟩])
  (.seq
  (.reg [⟨.l 23, .p .mv, [.v 1], none⟩,
    ⟨.l 24, .p .mv, [.v 10], none⟩,
    ⟨.l 25, .p (.bin .quo), [.l 24, .k (.m (.i .i64 4))], none⟩,
    ⟨.l 26, .p (.bin .mul), [.l 25, .k (.m (.i .i64 2))], none⟩,
    ⟨.l 27, .p (.bin .add), [.l 23, .l 26], none⟩,
    ⟨.v 13, .p .mv, [.l 27], none⟩])
  (.seq
  (.reg [⟨.l 28, .p .mv, [.v 1], none⟩,
    ⟨.l 29, .p .mv, [.v 10], none⟩,
    ⟨.l 30, .p (.bin .quo), [.l 29, .k (.m (.i .i64 4))], none⟩,
    ⟨.l 31, .p (.bin .mul), [.l 30, .k (.m (.i .i64 3))], none⟩,
    ⟨.l 32, .p (.bin .add), [.l 28, .l 31], none⟩,
    ⟨.v 14, .p .mv, [.l 32], none⟩])
  (.seq
  (.seq
  (.reg [⟨.l 33, .p .mv, [.v 10], none⟩,
    ⟨.v 34, .p (.bin .geq), [.l 33, .k (.m (.i .i64 8))], none⟩])
  (.ite (.v 34)
    (.seq
    (.seq
    (.reg [⟨.l 35, .p .mv, [.v 10], none⟩,
      ⟨.v 36, .p (.bin .geq), [.l 35, .k (.m (.i .i64 50))], none⟩])
    (.ite (.v 36)
      (.seq
      (.reg [⟨.l 37, .p .mv, [.v 0], none⟩,
        ⟨.l 38, .p .mv, [.v 12], none⟩,
        ⟨.l 39, .p .mv, [.v 3], none⟩,
        ⟨.l 40, .l (.cal 99), [.l 37, .l 38, .v 11, .l 39], none⟩,
        ⟨.v 12, .p .mv, [.l 40], none⟩])
      (.seq
      (.reg [⟨.l 41, .p .mv, [.v 0], none⟩,
        ⟨.l 42, .p .mv, [.v 13], none⟩,
        ⟨.l 43, .p .mv, [.v 3], none⟩,
        ⟨.l 44, .l (.cal 99), [.l 41, .l 42, .v 11, .l 43], none⟩,
        ⟨.v 13, .p .mv, [.l 44], none⟩])
      (.reg [⟨.l 45, .p .mv, [.v 0], none⟩,
        ⟨.l 46, .p .mv, [.v 14], none⟩,
        ⟨.l 47, .p .mv, [.v 3], none⟩,
        ⟨.l 48, .l (.cal 99), [.l 45, .l 46, .v 11, .l 47], none⟩,
        ⟨.v 14, .p .mv, [.l 48], none⟩])))
      .skip))
    (.reg [⟨.l 49, .p .mv, [.v 0], none⟩,
      ⟨.l 50, .p .mv, [.v 12], none⟩,
      ⟨.l 51, .p .mv, [.v 13], none⟩,
      ⟨.l 52, .p .mv, [.v 14], none⟩,
      ⟨.l 53, .p .mv, [.v 3], none⟩,
      ⟨.l 54, .l (.cal 100), [.l 49, .l 50, .l 51, .l 52, .v 11, .l 53], none⟩,
      ⟨.v 13, .p .mv, [.l 54], none⟩]))
    .skip))
  (.seq
  (.reg [⟨.v 55, .r (.ld false 1), [.v 11], none⟩])
  (.blk 0
  (.seq
  (.reg [⟨.l 58, .p (.bin .eql), [.v 55, .k (.m (.i .i64 0))], none⟩,
    ⟨.v 57, .p .mv, [.l 58], none⟩])
  (.ite (.v 57)
    (.seq
    (.reg [⟨.l 59, .p .mv, [.v 13], none⟩,
      ⟨.v 8, .p .mv, [.l 59], none⟩,
      ⟨.v 9, .p .mv, [.k (.m (.i .i64 1))], none⟩])
    .ret)
    (.seq
    (.reg [⟨.l 61, .p (.bin .eql), [.v 55, .k (.m (.i .i64 12))], none⟩,
      ⟨.v 60, .p .mv, [.l 61], none⟩])
    (.ite (.v 60)
      (.seq
      (.reg [⟨.l 62, .p .mv, [.v 13], none⟩,
        ⟨.v 8, .p .mv, [.l 62], none⟩,
        ⟨.v 9, .p .mv, [.k (.m (.i .i64 2))], none⟩])
      .ret)
      (.seq
      (.reg [⟨.l 56, .p .mv, [.v 13], none⟩,
        ⟨.v 8, .p .mv, [.l 56], none⟩,
        ⟨.v 9, .p .mv, [.k (.m (.i .i64 0))], none⟩])
      .ret))))))))))))))⟩

/- slices.reverseRangeCmpFunc[cellular/api.Cell] -/
def c91_B0 : C :=
  (.seq
  (.seq
  (.reg [⟨.l 13, .p .mv, [.v 8], none⟩,
    ⟨.l 14, .p .mv, [.v 9], none⟩,
    ⟨.v 15, .p (.bin .lss), [.l 13, .l 14], none⟩])
  (.ite (.v 15)
    .skip
    (.ex 0)))
  (.blk 1
  (.seq
  (.reg [⟨.l 16, .p .mv, [.v 0], none⟩,
    ⟨.l 17, .p .mv, [.v 8], none⟩,
    ⟨.l 18, .p .mv, [.v 0], none⟩,
    ⟨.l 19, .p .mv, [.v 9], none⟩,
    ⟨.l 20, .p .mv, [.v 0], none⟩,
    ⟨.l 21, .p .mv, [.v 9], none⟩,
    ⟨.l 22, .p (.ixa 3), [.l 20, .l 21], none⟩,
    ⟨.l 23, .r (.ld true 3), [.l 22], none⟩,
    ⟨.l 24, .p .mv, [.v 0], none⟩,
    ⟨.l 25, .p .mv, [.v 8], none⟩,
    ⟨.l 26, .p (.ixa 3), [.l 24, .l 25], none⟩,
    ⟨.l 27, .r (.ld true 3), [.l 26], none⟩,
    ⟨.l 28, .p (.ixa 3), [.l 16, .l 17], none⟩,
    ⟨.no, .l (.st 3), [.l 28, .l 23], none⟩,
    ⟨.l 29, .p (.ixa 3), [.l 18, .l 19], none⟩,
    ⟨.no, .l (.st 3), [.l 29, .l 27], none⟩])
  (.seq
  (.reg [⟨.l 30, .p .mv, [.v 8], none⟩,
    ⟨.l 31, .p (.bin .add), [.l 30, .k (.m (.i .i64 1))], none⟩,
    ⟨.v 8, .p .mv, [.l 31], none⟩])
  (.reg [⟨.l 32, .p .mv, [.v 9], none⟩,
    ⟨.l 33, .p (.bin .sub), [.l 32, .k (.m (.i .i64 1))], none⟩,
    ⟨.v 9, .p .mv, [.l 33], none⟩])))))
def c91_L0 : C := .loop [1, 2, 3, 15] c91_B0
def c91 : F := ⟨4, [],
  (.seq
  (.reg [⟨.l 10, .p .mv, [.v 1], none⟩,
    ⟨.v 8, .p .mv, [.l 10], none⟩])
  (.seq
  (.reg [⟨.l 11, .p .mv, [.v 2], none⟩,
    ⟨.l 12, .p (.bin .sub), [.l 11, .k (.m (.i .i64 1))], none⟩,
    ⟨.v 9, .p .mv, [.l 12], none⟩])
  (.blk 0
  c91_L0)))⟩

/- slices.partialInsertionSortCmpFunc[cellular/api.Cell] -/
def c92_B0 : C :=
  (.seq
  (.seq
  (.reg [⟨.l 19, .p .mv, [.v 9], none⟩,
    ⟨.l 20, .p .mv, [.v 2], none⟩,
    ⟨.l 21, .p (.bin .lss), [.l 19, .l 20], none⟩,
    ⟨.l 22, .p .mv, [.l 21], none⟩,
    ⟨.l 23, .p .mv, [.v 3], some (.l 22, true)⟩,
    ⟨.l 24, .p .mv, [.v 0], some (.l 22, true)⟩,
    ⟨.l 25, .p .mv, [.v 9], some (.l 22, true)⟩,
    ⟨.l 26, .p (.ixa 3), [.l 24, .l 25], some (.l 22, true)⟩,
    ⟨.l 27, .r (.ld true 3), [.l 26], some (.l 22, true)⟩,
    ⟨.l 28, .p .mv, [.v 0], some (.l 22, true)⟩,
    ⟨.l 29, .p .mv, [.v 9], some (.l 22, true)⟩,
    ⟨.l 30, .p (.bin .sub), [.l 29, .k (.m (.i .i64 1))], some (.l 22, true)⟩,
    ⟨.l 31, .p (.ixa 3), [.l 28, .l 30], some (.l 22, true)⟩,
    ⟨.l 32, .r (.ld true 3), [.l 31], some (.l 22, true)⟩,
    ⟨.l 33, .l .cav, [.l 23, .l 27, .l 32], some (.l 22, true)⟩,
    ⟨.l 34, .p (.bin .lss), [.l 33, .k (.m (.i .i64 0))], some (.l 22, true)⟩,
    ⟨.l 35, .p (.un .not), [.l 34], some (.l 22, true)⟩,
    ⟨.v 36, .p .pick, [.l 22, .l 35, .k (.m (.b false))], none⟩])
  (.ite (.v 36)
    .skip
    (.ex 2)))
  (.blk 3
  (.reg [⟨.l 37, .p .mv, [.v 9], none⟩,
    ⟨.l 38, .p (.bin .add), [.l 37, .k (.m (.i .i64 1))], none⟩,
    ⟨.v 9, .p .mv, [.l 38], none⟩])))
def c92_L0 : C := .loop [16, 36] c92_B0
def c92_B1 : C :=
  (.seq
  (.seq
  (.reg [⟨.l 68, .p .mv, [.v 11], none⟩,
    ⟨.v 69, .p (.bin .geq), [.l 68, .k (.m (.i .i64 1))], none⟩])
  (.ite (.v 69)
    .skip
    (.ex 4)))
  (.seq
  (.blk 5
  (.seq
  (.seq
  (.reg [⟨.l 72, .p .mv, [.v 3], none⟩,
    ⟨.l 73, .p .mv, [.v 0], none⟩,
    ⟨.l 74, .p .mv, [.v 11], none⟩,
    ⟨.l 75, .p (.ixa 3), [.l 73, .l 74], none⟩,
    ⟨.l 76, .r (.ld true 3), [.l 75], none⟩,
    ⟨.l 77, .p .mv, [.v 0], none⟩,
    ⟨.l 78, .p .mv, [.v 11], none⟩,
    ⟨.l 79, .p (.bin .sub), [.l 78, .k (.m (.i .i64 1))], none⟩,
    ⟨.l 80, .p (.ixa 3), [.l 77, .l 79], none⟩,
    ⟨.l 81, .r (.ld true 3), [.l 80], none⟩,
    ⟨.l 82, .l .cav, [.l 72, .l 76, .l 81], none⟩,
    ⟨.l 83, .p (.bin .lss), [.l 82, .k (.m (.i .i64 0))], none⟩,
    ⟨.v 84, .p (.un .not), [.l 83], none⟩])
  (.ite (.v 84)
    (.ex 4)
    .skip))
  (.reg [⟨.l 85, .p .mv, [.v 0], none⟩,
    ⟨.l 86, .p .mv, [.v 11], none⟩,
    ⟨.l 87, .p .mv, [.v 0], none⟩,
    ⟨.l 88, .p .mv, [.v 11], none⟩,
    ⟨.l 89, .p (.bin .sub), [.l 88, .k (.m (.i .i64 1))], none⟩,
    ⟨.l 90, .p .mv, [.v 0], none⟩,
    ⟨.l 91, .p .mv, [.v 11], none⟩,
    ⟨.l 92, .p (.bin .sub), [.l 91, .k (.m (.i .i64 1))], none⟩,
    ⟨.l 93, .p (.ixa 3), [.l 90, .l 92], none⟩,
    ⟨.l 94, .r (.ld true 3), [.l 93], none⟩,
    ⟨.l 95, .p .mv, [.v 0], none⟩,
    ⟨.l 96, .p .mv, [.v 11], none⟩,
    ⟨.l 97, .p (.ixa 3), [.l 95, .l 96], none⟩,
    ⟨.l 98, .r (.ld true 3), [.l 97], none⟩,
    ⟨.l 99, .p (.ixa 3), [.l 85, .l 86], none⟩,
    ⟨.no, .l (.st 3), [.l 99, .l 94], none⟩,
    ⟨.l 100, .p (.ixa 3), [.l 87, .l 89], none⟩,
    ⟨.no, .l (.st 3), [.l 100, .l 98], none⟩])))
  (.reg [⟨.l 70, .p .mv, [.v 11], none⟩,
    ⟨.l 71, .p (.bin .sub), [.l 70, .k (.m (.i .i64 1))], none⟩,
    ⟨.v 11, .p .mv, [.l 71], none⟩])))
def c92_L1 : C := .loop [36, 41, 45, 65, 69, 84] c92_B1
def c92_B2 : C :=
  (.seq
  (.seq
  (.reg [⟨.l 107, .p .mv, [.v 12], none⟩,
    ⟨.l 108, .p .mv, [.v 2], none⟩,
    ⟨.v 109, .p (.bin .lss), [.l 107, .l 108], none⟩])
  (.ite (.v 109)
    .skip
    (.ex 6)))
  (.seq
  (.blk 7
  (.seq
  (.seq
  (.reg [⟨.l 112, .p .mv, [.v 3], none⟩,
    ⟨.l 113, .p .mv, [.v 0], none⟩,
    ⟨.l 114, .p .mv, [.v 12], none⟩,
    ⟨.l 115, .p (.ixa 3), [.l 113, .l 114], none⟩,
    ⟨.l 116, .r (.ld true 3), [.l 115], none⟩,
    ⟨.l 117, .p .mv, [.v 0], none⟩,
    ⟨.l 118, .p .mv, [.v 12], none⟩,
    ⟨.l 119, .p (.bin .sub), [.l 118, .k (.m (.i .i64 1))], none⟩,
    ⟨.l 120, .p (.ixa 3), [.l 117, .l 119], none⟩,
    ⟨.l 121, .r (.ld true 3), [.l 120], none⟩,
    ⟨.l 122, .l .cav, [.l 112, .l 116, .l 121], none⟩,
    ⟨.l 123, .p (.bin .lss), [.l 122, .k (.m (.i .i64 0))], none⟩,
    ⟨.v 124, .p (.un .not), [.l 123], none⟩])
  (.ite (.v 124)
    (.ex 6)
    .skip))
  (.reg [⟨.l 125, .p .mv, [.v 0], none⟩,
    ⟨.l 126, .p .mv, [.v 12], none⟩,
    ⟨.l 127, .p .mv, [.v 0], none⟩,
    ⟨.l 128, .p .mv, [.v 12], none⟩,
    ⟨.l 129, .p (.bin .sub), [.l 128, .k (.m (.i .i64 1))], none⟩,
    ⟨.l 130, .p .mv, [.v 0], none⟩,
    ⟨.l 131, .p .mv, [.v 12], none⟩,
    ⟨.l 132, .p (.bin .sub), [.l 131, .k (.m (.i .i64 1))], none⟩,
    ⟨.l 133, .p (.ixa 3), [.l 130, .l 132], none⟩,
    ⟨.l 134, .r (.ld true 3), [.l 133], none⟩,
    ⟨.l 135, .p .mv, [.v 0], none⟩,
    ⟨.l 136, .p .mv, [.v 12], none⟩,
    ⟨.l 137, .p (.ixa 3), [.l 135, .l 136], none⟩,
    ⟨.l 138, .r (.ld true 3), [.l 137], none⟩,
    ⟨.l 139, .p (.ixa 3), [.l 125, .l 126], none⟩,
    ⟨.no, .l (.st 3), [.l 139, .l 134], none⟩,
    ⟨.l 140, .p (.ixa 3), [.l 127, .l 129], none⟩,
    ⟨.no, .l (.st 3), [.l 140, .l 138], none⟩])))
  (.reg [⟨.l 110, .p .mv, [.v 12], none⟩,
    ⟨.l 111, .p (.bin .add), [.l 110, .k (.m (.i .i64 1))], none⟩,
    ⟨.v 12, .p .mv, [.l 111], none⟩])))
def c92_L2 : C := .loop [11, 36, 41, 45, 65, 69, 84, 104, 109, 124] c92_B2
def c92_B3 : C :=
  (.seq
  (.seq
  (.reg [⟨.l 15, .p .mv, [.v 10], none⟩,
    ⟨.v 16, .p (.bin .lss), [.l 15, .k (.m (.i .i64 5))], none⟩])
  (.ite (.v 16)
    .skip
    (.ex 0)))
  (.seq
  (.blk 1
  (.seq
  (.blk 2
  c92_L0)
  (.seq
  (.seq
  (.reg [⟨.l 39, .p .mv, [.v 9], none⟩,
    ⟨.l 40, .p .mv, [.v 2], none⟩,
    ⟨.v 41, .p (.bin .eql), [.l 39, .l 40], none⟩])
  (.ite (.v 41)
    (.seq
    (.reg [⟨.v 8, .p .mv, [.k (.m (.b true))], none⟩])
    .ret)
    .skip))
  (.seq
  (.seq
  (.reg [⟨.l 42, .p .mv, [.v 2], none⟩,
    ⟨.l 43, .p .mv, [.v 1], none⟩,
    ⟨.l 44, .p (.bin .sub), [.l 42, .l 43], none⟩,
    ⟨.v 45, .p (.bin .lss), [.l 44, .k (.m (.i .i64 50))], none⟩])
  (.ite (.v 45)
    (.seq
    (.reg [⟨.v 8, .p .mv, [.k (.m (.b false))], none⟩])
    .ret)
    .skip))
  (.seq
  (.reg [⟨.l 46, .p .mv, [.v 0], none⟩,
    ⟨.l 47, .p .mv, [.v 9], none⟩,
    ⟨.l 48, .p .mv, [.v 0], none⟩,
    ⟨.l 49, .p .mv, [.v 9], none⟩,
    ⟨.l 50, .p (.bin .sub), [.l 49, .k (.m (.i .i64 1))], none⟩,
    ⟨.l 51, .p .mv, [.v 0], none⟩,
    ⟨.l 52, .p .mv, [.v 9], none⟩,
    ⟨.l 53, .p (.bin .sub), [.l 52, .k (.m (.i .i64 1))], none⟩,
    ⟨.l 54, .p (.ixa 3), [.l 51, .l 53], none⟩,
    ⟨.l 55, .r (.ld true 3), [.l 54], none⟩,
    ⟨.l 56, .p .mv, [.v 0], none⟩,
    ⟨.l 57, .p .mv, [.v 9], none⟩,
    ⟨.l 58, .p (.ixa 3), [.l 56, .l 57], none⟩,
    ⟨.l 59, .r (.ld true 3), [.l 58], none⟩,
    ⟨.l 60, .p (.ixa 3), [.l 46, .l 47], none⟩,
    ⟨.no, .l (.st 3), [.l 60, .l 55], none⟩,
    ⟨.l 61, .p (.ixa 3), [.l 48, .l 50], none⟩,
    ⟨.no, .l (.st 3), [.l 61, .l 59], none⟩])
  (.seq
  (.seq
  (.reg [⟨.l 62, .p .mv, [.v 9], none⟩,
    ⟨.l 63, .p .mv, [.v 1], none⟩,
    ⟨.l 64, .p (.bin .sub), [.l 62, .l 63], none⟩,
    ⟨.v 65, .p (.bin .geq), [.l 64, .k (.m (.i .i64 2))], none⟩])
  (.ite (.v 65)
    (.seq
    (.reg [⟨.l 66, .p .mv, [.v 9], none⟩,
      ⟨.l 67, .p (.bin .sub), [.l 66, .k (.m (.i .i64 1))], none⟩,
      ⟨.v 11, .p .mv, [.l 67], none⟩])
    (.blk 4
    c92_L1))
    .skip))
  (.seq
  (.reg [⟨.l 101, .p .mv, [.v 2], none⟩,
    ⟨.l 102, .p .mv, [.v 9], none⟩,
    ⟨.l 103, .p (.bin .sub), [.l 101, .l 102], none⟩,
    ⟨.v 104, .p (.bin .geq), [.l 103, .k (.m (.i .i64 2))], none⟩])
  (.ite (.v 104)
    (.seq
    (.reg [⟨.l 105, .p .mv, [.v 9], none⟩,
      ⟨.l 106, .p (.bin .add), [.l 105, .k (.m (.i .i64 1))], none⟩,
      ⟨.v 12, .p .mv, [.l 106], none⟩])
    (.blk 6
    c92_L2))
    .skip))))))))
  (.reg [⟨.l 17, .p .mv, [.v 10], none⟩,
    ⟨.l 18, .p (.bin .add), [.l 17, .k (.m (.i .i64 1))], none⟩,
    ⟨.v 10, .p .mv, [.l 18], none⟩])))
def c92_L3 : C := .loop [8, 11, 12, 36, 41, 45, 65, 69, 84, 104, 109, 124] c92_B3
def c92 : F := ⟨4, [.t 8],
  (.seq
  (.reg [⟨.v 8, .p .mv, [.k (.m (.b false))], none⟩])
  (.seq
  (.reg [⟨.l 13, .p .mv, [.v 1], none⟩,
    ⟨.l 14, .p (.bin .add), [.l 13, .k (.m (.i .i64 1))], none⟩,
    ⟨.v 9, .p .mv, [.l 14], none⟩])
  (.seq
  (.seq
  (.reg [⟨.v 10, .p .mv, [.k (.m (.i .i64 0))], none⟩])
  (.blk 0
  c92_L3))
  (.seq
  (.reg [⟨.v 8, .p .mv, [.k (.m (.b false))], none⟩])
  .ret))))⟩

/- slices.partitionEqualCmpFunc[cellular/api.Cell] -/
def c93_B0 : C :=
  (.seq
  (.seq
  (.reg [⟨.l 31, .p .mv, [.v 11], none⟩,
    ⟨.l 32, .p .mv, [.v 12], none⟩,
    ⟨.l 33, .p (.bin .leq), [.l 31, .l 32], none⟩,
    ⟨.l 34, .p .mv, [.l 33], none⟩,
    ⟨.l 35, .p .mv, [.v 4], some (.l 34, true)⟩,
    ⟨.l 36, .p .mv, [.v 0], some (.l 34, true)⟩,
    ⟨.l 37, .p .mv, [.v 1], some (.l 34, true)⟩,
    ⟨.l 38, .p (.ixa 3), [.l 36, .l 37], some (.l 34, true)⟩,
    ⟨.l 39, .r (.ld true 3), [.l 38], some (.l 34, true)⟩,
    ⟨.l 40, .p .mv, [.v 0], some (.l 34, true)⟩,
    ⟨.l 41, .p .mv, [.v 11], some (.l 34, true)⟩,
    ⟨.l 42, .p (.ixa 3), [.l 40, .l 41], some (.l 34, true)⟩,
    ⟨.l 43, .r (.ld true 3), [.l 42], some (.l 34, true)⟩,
    ⟨.l 44, .l .cav, [.l 35, .l 39, .l 43], some (.l 34, true)⟩,
    ⟨.l 45, .p (.bin .lss), [.l 44, .k (.m (.i .i64 0))], some (.l 34, true)⟩,
    ⟨.l 46, .p (.un .not), [.l 45], some (.l 34, true)⟩,
    ⟨.v 47, .p .pick, [.l 34, .l 46, .k (.m (.b false))], none⟩])
  (.ite (.v 47)
    .skip
    (.ex 2)))
  (.blk 3
  (.reg [⟨.l 48, .p .mv, [.v 11], none⟩,
    ⟨.l 49, .p (.bin .add), [.l 48, .k (.m (.i .i64 1))], none⟩,
    ⟨.v 11, .p .mv, [.l 49], none⟩])))
def c93_L0 : C := .loop [2, 3, 10, 47, 65, 70] c93_B0
def c93_B1 : C :=
  (.seq
  (.seq
  (.reg [⟨.l 50, .p .mv, [.v 11], none⟩,
    ⟨.l 51, .p .mv, [.v 12], none⟩,
    ⟨.l 52, .p (.bin .leq), [.l 50, .l 51], none⟩,
    ⟨.l 53, .p .mv, [.l 52], none⟩,
    ⟨.l 54, .p .mv, [.v 4], some (.l 53, true)⟩,
    ⟨.l 55, .p .mv, [.v 0], some (.l 53, true)⟩,
    ⟨.l 56, .p .mv, [.v 1], some (.l 53, true)⟩,
    ⟨.l 57, .p (.ixa 3), [.l 55, .l 56], some (.l 53, true)⟩,
    ⟨.l 58, .r (.ld true 3), [.l 57], some (.l 53, true)⟩,
    ⟨.l 59, .p .mv, [.v 0], some (.l 53, true)⟩,
    ⟨.l 60, .p .mv, [.v 12], some (.l 53, true)⟩,
    ⟨.l 61, .p (.ixa 3), [.l 59, .l 60], some (.l 53, true)⟩,
    ⟨.l 62, .r (.ld true 3), [.l 61], some (.l 53, true)⟩,
    ⟨.l 63, .l .cav, [.l 54, .l 58, .l 62], some (.l 53, true)⟩,
    ⟨.l 64, .p (.bin .lss), [.l 63, .k (.m (.i .i64 0))], some (.l 53, true)⟩,
    ⟨.v 65, .p .pick, [.l 53, .l 64, .k (.m (.b false))], none⟩])
  (.ite (.v 65)
    .skip
    (.ex 4)))
  (.blk 5
  (.reg [⟨.l 66, .p .mv, [.v 12], none⟩,
    ⟨.l 67, .p (.bin .sub), [.l 66, .k (.m (.i .i64 1))], none⟩,
    ⟨.v 12, .p .mv, [.l 67], none⟩])))
def c93_L1 : C := .loop [47, 65] c93_B1
def c93_B2 : C :=
  (.blk 1
  (.seq
  (.blk 2
  c93_L0)
  (.seq
  (.blk 4
  c93_L1)
  (.seq
  (.seq
  (.reg [⟨.l 68, .p .mv, [.v 11], none⟩,
    ⟨.l 69, .p .mv, [.v 12], none⟩,
    ⟨.v 70, .p (.bin .gtr), [.l 68, .l 69], none⟩])
  (.ite (.v 70)
    (.ex 0)
    .skip))
  (.seq
  (.reg [⟨.l 71, .p .mv, [.v 0], none⟩,
    ⟨.l 72, .p .mv, [.v 11], none⟩,
    ⟨.l 73, .p .mv, [.v 0], none⟩,
    ⟨.l 74, .p .mv, [.v 12], none⟩,
    ⟨.l 75, .p .mv, [.v 0], none⟩,
    ⟨.l 76, .p .mv, [.v 12], none⟩,
    ⟨.l 77, .p (.ixa 3), [.l 75, .l 76], none⟩,
    ⟨.l 78, .r (.ld true 3), [.l 77], none⟩,
    ⟨.l 79, .p .mv, [.v 0], none⟩,
    ⟨.l 80, .p .mv, [.v 11], none⟩,
    ⟨.l 81, .p (.ixa 3), [.l 79, .l 80], none⟩,
    ⟨.l 82, .r (.ld true 3), [.l 81], none⟩,
    ⟨.l 83, .p (.ixa 3), [.l 71, .l 72], none⟩,
    ⟨.no, .l (.st 3), [.l 83, .l 78], none⟩,
    ⟨.l 84, .p (.ixa 3), [.l 73, .l 74], none⟩,
    ⟨.no, .l (.st 3), [.l 84, .l 82], none⟩])
  (.seq
  (.reg [⟨.l 85, .p .mv, [.v 11], none⟩,
    ⟨.l 86, .p (.bin .add), [.l 85, .k (.m (.i .i64 1))], none⟩,
    ⟨.v 11, .p .mv, [.l 86], none⟩])
  (.reg [⟨.l 87, .p .mv, [.v 12], none⟩,
    ⟨.l 88, .p (.bin .sub), [.l 87, .k (.m (.i .i64 1))], none⟩,
    ⟨.v 12, .p .mv, [.l 88], none⟩])))))))
def c93_L2 : C := .loop [2, 3, 10, 47, 65, 70] c93_B2
def c93 : F := ⟨5, [.t 10],
  (.seq
  (.reg [⟨.v 10, .p .mv, [.k (.m (.i .i64 0))], none⟩])
  (.seq
  (.reg [⟨.l 13, .p .mv, [.v 0], none⟩,
    ⟨.l 14, .p .mv, [.v 1], none⟩,
    ⟨.l 15, .p .mv, [.v 0], none⟩,
    ⟨.l 16, .p .mv, [.v 3], none⟩,
    ⟨.l 17, .p .mv, [.v 0], none⟩,
    ⟨.l 18, .p .mv, [.v 3], none⟩,
    ⟨.l 19, .p (.ixa 3), [.l 17, .l 18], none⟩,
    ⟨.l 20, .r (.ld true 3), [.l 19], none⟩,
    ⟨.l 21, .p .mv, [.v 0], none⟩,
    ⟨.l 22, .p .mv, [.v 1], none⟩,
    ⟨.l 23, .p (.ixa 3), [.l 21, .l 22], none⟩,
    ⟨.l 24, .r (.ld true 3), [.l 23], none⟩,
    ⟨.l 25, .p (.ixa 3), [.l 13, .l 14], none⟩,
    ⟨.no, .l (.st 3), [.l 25, .l 20], none⟩,
    ⟨.l 26, .p (.ixa 3), [.l 15, .l 16], none⟩,
    ⟨.no, .l (.st 3), [.l 26, .l 24], none⟩])
  (.seq
  (.reg [⟨.l 27, .p .mv, [.v 1], none⟩,
    ⟨.l 28, .p (.bin .add), [.l 27, .k (.m (.i .i64 1))], none⟩,
    ⟨.l 29, .p .mv, [.v 2], none⟩,
    ⟨.l 30, .p (.bin .sub), [.l 29, .k (.m (.i .i64 1))], none⟩,
    ⟨.v 11, .p .mv, [.l 28], none⟩,
    ⟨.v 12, .p .mv, [.l 30], none⟩])
  (.seq
  (.blk 0
  c93_L2)
  (.seq
  (.reg [⟨.l 89, .p .mv, [.v 11], none⟩,
    ⟨.v 10, .p .mv, [.l 89], none⟩])
  .ret)))))⟩

/- slices.partitionCmpFunc[cellular/api.Cell] -/
def c94_B0 : C :=
  (.seq
  (.seq
  (.reg [⟨.l 32, .p .mv, [.v 12], none⟩,
    ⟨.l 33, .p .mv, [.v 13], none⟩,
    ⟨.l 34, .p (.bin .leq), [.l 32, .l 33], none⟩,
    ⟨.l 35, .p .mv, [.l 34], none⟩,
    ⟨.l 36, .p .mv, [.v 4], some (.l 35, true)⟩,
    ⟨.l 37, .p .mv, [.v 0], some (.l 35, true)⟩,
    ⟨.l 38, .p .mv, [.v 12], some (.l 35, true)⟩,
    ⟨.l 39, .p (.ixa 3), [.l 37, .l 38], some (.l 35, true)⟩,
    ⟨.l 40, .r (.ld true 3), [.l 39], some (.l 35, true)⟩,
    ⟨.l 41, .p .mv, [.v 0], some (.l 35, true)⟩,
    ⟨.l 42, .p .mv, [.v 1], some (.l 35, true)⟩,
    ⟨.l 43, .p (.ixa 3), [.l 41, .l 42], some (.l 35, true)⟩,
    ⟨.l 44, .r (.ld true 3), [.l 43], some (.l 35, true)⟩,
    ⟨.l 45, .l .cav, [.l 36, .l 40, .l 44], some (.l 35, true)⟩,
    ⟨.l 46, .p (.bin .lss), [.l 45, .k (.m (.i .i64 0))], some (.l 35, true)⟩,
    ⟨.v 47, .p .pick, [.l 35, .l 46, .k (.m (.b false))], none⟩])
  (.ite (.v 47)
    .skip
    (.ex 0)))
  (.blk 1
  (.reg [⟨.l 48, .p .mv, [.v 12], none⟩,
    ⟨.l 49, .p (.bin .add), [.l 48, .k (.m (.i .i64 1))], none⟩,
    ⟨.v 12, .p .mv, [.l 49], none⟩])))
def c94_L0 : C := .loop [2, 3, 10, 11, 47] c94_B0
def c94_B1 : C :=
  (.seq
  (.seq
  (.reg [⟨.l 50, .p .mv, [.v 12], none⟩,
    ⟨.l 51, .p .mv, [.v 13], none⟩,
    ⟨.l 52, .p (.bin .leq), [.l 50, .l 51], none⟩,
    ⟨.l 53, .p .mv, [.l 52], none⟩,
    ⟨.l 54, .p .mv, [.v 4], some (.l 53, true)⟩,
    ⟨.l 55, .p .mv, [.v 0], some (.l 53, true)⟩,
    ⟨.l 56, .p .mv, [.v 13], some (.l 53, true)⟩,
    ⟨.l 57, .p (.ixa 3), [.l 55, .l 56], some (.l 53, true)⟩,
    ⟨.l 58, .r (.ld true 3), [.l 57], some (.l 53, true)⟩,
    ⟨.l 59, .p .mv, [.v 0], some (.l 53, true)⟩,
    ⟨.l 60, .p .mv, [.v 1], some (.l 53, true)⟩,
    ⟨.l 61, .p (.ixa 3), [.l 59, .l 60], some (.l 53, true)⟩,
    ⟨.l 62, .r (.ld true 3), [.l 61], some (.l 53, true)⟩,
    ⟨.l 63, .l .cav, [.l 54, .l 58, .l 62], some (.l 53, true)⟩,
    ⟨.l 64, .p (.bin .lss), [.l 63, .k (.m (.i .i64 0))], some (.l 53, true)⟩,
    ⟨.l 65, .p (.un .not), [.l 64], some (.l 53, true)⟩,
    ⟨.v 66, .p .pick, [.l 53, .l 65, .k (.m (.b false))], none⟩])
  (.ite (.v 66)
    .skip
    (.ex 2)))
  (.blk 3
  (.reg [⟨.l 67, .p .mv, [.v 13], none⟩,
    ⟨.l 68, .p (.bin .sub), [.l 67, .k (.m (.i .i64 1))], none⟩,
    ⟨.v 13, .p .mv, [.l 68], none⟩])))
def c94_L1 : C := .loop [47, 66] c94_B1
def c94_B2 : C :=
  (.seq
  (.seq
  (.reg [⟨.l 105, .p .mv, [.v 12], none⟩,
    ⟨.l 106, .p .mv, [.v 13], none⟩,
    ⟨.l 107, .p (.bin .leq), [.l 105, .l 106], none⟩,
    ⟨.l 108, .p .mv, [.l 107], none⟩,
    ⟨.l 109, .p .mv, [.v 4], some (.l 108, true)⟩,
    ⟨.l 110, .p .mv, [.v 0], some (.l 108, true)⟩,
    ⟨.l 111, .p .mv, [.v 12], some (.l 108, true)⟩,
    ⟨.l 112, .p (.ixa 3), [.l 110, .l 111], some (.l 108, true)⟩,
    ⟨.l 113, .r (.ld true 3), [.l 112], some (.l 108, true)⟩,
    ⟨.l 114, .p .mv, [.v 0], some (.l 108, true)⟩,
    ⟨.l 115, .p .mv, [.v 1], some (.l 108, true)⟩,
    ⟨.l 116, .p (.ixa 3), [.l 114, .l 115], some (.l 108, true)⟩,
    ⟨.l 117, .r (.ld true 3), [.l 116], some (.l 108, true)⟩,
    ⟨.l 118, .l .cav, [.l 109, .l 113, .l 117], some (.l 108, true)⟩,
    ⟨.l 119, .p (.bin .lss), [.l 118, .k (.m (.i .i64 0))], some (.l 108, true)⟩,
    ⟨.v 120, .p .pick, [.l 108, .l 119, .k (.m (.b false))], none⟩])
  (.ite (.v 120)
    .skip
    (.ex 6)))
  (.blk 7
  (.reg [⟨.l 121, .p .mv, [.v 12], none⟩,
    ⟨.l 122, .p (.bin .add), [.l 121, .k (.m (.i .i64 1))], none⟩,
    ⟨.v 12, .p .mv, [.l 122], none⟩])))
def c94_L2 : C := .loop [66, 71, 120, 139, 144] c94_B2
def c94_B3 : C :=
  (.seq
  (.seq
  (.reg [⟨.l 123, .p .mv, [.v 12], none⟩,
    ⟨.l 124, .p .mv, [.v 13], none⟩,
    ⟨.l 125, .p (.bin .leq), [.l 123, .l 124], none⟩,
    ⟨.l 126, .p .mv, [.l 125], none⟩,
    ⟨.l 127, .p .mv, [.v 4], some (.l 126, true)⟩,
    ⟨.l 128, .p .mv, [.v 0], some (.l 126, true)⟩,
    ⟨.l 129, .p .mv, [.v 13], some (.l 126, true)⟩,
    ⟨.l 130, .p (.ixa 3), [.l 128, .l 129], some (.l 126, true)⟩,
    ⟨.l 131, .r (.ld true 3), [.l 130], some (.l 126, true)⟩,
    ⟨.l 132, .p .mv, [.v 0], some (.l 126, true)⟩,
    ⟨.l 133, .p .mv, [.v 1], some (.l 126, true)⟩,
    ⟨.l 134, .p (.ixa 3), [.l 132, .l 133], some (.l 126, true)⟩,
    ⟨.l 135, .r (.ld true 3), [.l 134], some (.l 126, true)⟩,
    ⟨.l 136, .l .cav, [.l 127, .l 131, .l 135], some (.l 126, true)⟩,
    ⟨.l 137, .p (.bin .lss), [.l 136, .k (.m (.i .i64 0))], some (.l 126, true)⟩,
    ⟨.l 138, .p (.un .not), [.l 137], some (.l 126, true)⟩,
    ⟨.v 139, .p .pick, [.l 126, .l 138, .k (.m (.b false))], none⟩])
  (.ite (.v 139)
    .skip
    (.ex 8)))
  (.blk 9
  (.reg [⟨.l 140, .p .mv, [.v 13], none⟩,
    ⟨.l 141, .p (.bin .sub), [.l 140, .k (.m (.i .i64 1))], none⟩,
    ⟨.v 13, .p .mv, [.l 141], none⟩])))
def c94_L3 : C := .loop [120, 139] c94_B3
def c94_B4 : C :=
  (.blk 5
  (.seq
  (.blk 6
  c94_L2)
  (.seq
  (.blk 8
  c94_L3)
  (.seq
  (.seq
  (.reg [⟨.l 142, .p .mv, [.v 12], none⟩,
    ⟨.l 143, .p .mv, [.v 13], none⟩,
    ⟨.v 144, .p (.bin .gtr), [.l 142, .l 143], none⟩])
  (.ite (.v 144)
    (.ex 4)
    .skip))
  (.seq
  (.reg [⟨.l 145, .p .mv, [.v 0], none⟩,
    ⟨.l 146, .p .mv, [.v 12], none⟩,
    ⟨.l 147, .p .mv, [.v 0], none⟩,
    ⟨.l 148, .p .mv, [.v 13], none⟩,
    ⟨.l 149, .p .mv, [.v 0], none⟩,
    ⟨.l 150, .p .mv, [.v 13], none⟩,
    ⟨.l 151, .p (.ixa 3), [.l 149, .l 150], none⟩,
    ⟨.l 152, .r (.ld true 3), [.l 151], none⟩,
    ⟨.l 153, .p .mv, [.v 0], none⟩,
    ⟨.l 154, .p .mv, [.v 12], none⟩,
    ⟨.l 155, .p (.ixa 3), [.l 153, .l 154], none⟩,
    ⟨.l 156, .r (.ld true 3), [.l 155], none⟩,
    ⟨.l 157, .p (.ixa 3), [.l 145, .l 146], none⟩,
    ⟨.no, .l (.st 3), [.l 157, .l 152], none⟩,
    ⟨.l 158, .p (.ixa 3), [.l 147, .l 148], none⟩,
    ⟨.no, .l (.st 3), [.l 158, .l 156], none⟩])
  (.seq
  (.reg [⟨.l 159, .p .mv, [.v 12], none⟩,
    ⟨.l 160, .p (.bin .add), [.l 159, .k (.m (.i .i64 1))], none⟩,
    ⟨.v 12, .p .mv, [.l 160], none⟩])
  (.reg [⟨.l 161, .p .mv, [.v 13], none⟩,
    ⟨.l 162, .p (.bin .sub), [.l 161, .k (.m (.i .i64 1))], none⟩,
    ⟨.v 13, .p .mv, [.l 162], none⟩])))))))
def c94_L4 : C := .loop [66, 71, 120, 139, 144] c94_B4
def c94 : F := ⟨5, [.t 10, .t 11],
  (.seq
  (.reg [⟨.v 10, .p .mv, [.k (.m (.i .i64 0))], none⟩,
    ⟨.v 11, .p .mv, [.k (.m (.b false))], none⟩])
  (.seq
  (.reg [⟨.l 14, .p .mv, [.v 0], none⟩,
    ⟨.l 15, .p .mv, [.v 1], none⟩,
    ⟨.l 16, .p .mv, [.v 0], none⟩,
    ⟨.l 17, .p .mv, [.v 3], none⟩,
    ⟨.l 18, .p .mv, [.v 0], none⟩,
    ⟨.l 19, .p .mv, [.v 3], none⟩,
    ⟨.l 20, .p (.ixa 3), [.l 18, .l 19], none⟩,
    ⟨.l 21, .r (.ld true 3), [.l 20], none⟩,
    ⟨.l 22, .p .mv, [.v 0], none⟩,
    ⟨.l 23, .p .mv, [.v 1], none⟩,
    ⟨.l 24, .p (.ixa 3), [.l 22, .l 23], none⟩,
    ⟨.l 25, .r (.ld true 3), [.l 24], none⟩,
    ⟨.l 26, .p (.ixa 3), [.l 14, .l 15], none⟩,
    ⟨.no, .l (.st 3), [.l 26, .l 21], none⟩,
    ⟨.l 27, .p (.ixa 3), [.l 16, .l 17], none⟩,
    ⟨.no, .l (.st 3), [.l 27, .l 25], none⟩])
  (.seq
  (.reg [⟨.l 28, .p .mv, [.v 1], none⟩,
    ⟨.l 29, .p (.bin .add), [.l 28, .k (.m (.i .i64 1))], none⟩,
    ⟨.l 30, .p .mv, [.v 2], none⟩,
    ⟨.l 31, .p (.bin .sub), [.l 30, .k (.m (.i .i64 1))], none⟩,
    ⟨.v 12, .p .mv, [.l 29], none⟩,
    ⟨.v 13, .p .mv, [.l 31], none⟩])
  (.seq
  (.blk 0
  c94_L0)
  (.seq
  (.blk 2
  c94_L1)
  (.seq
  (.seq
  (.reg [⟨.l 69, .p .mv, [.v 12], none⟩,
    ⟨.l 70, .p .mv, [.v 13], none⟩,
    ⟨.v 71, .p (.bin .gtr), [.l 69, .l 70], none⟩])
  (.ite (.v 71)
    (.seq
    (.reg [⟨.l 72, .p .mv, [.v 0], none⟩,
      ⟨.l 73, .p .mv, [.v 13], none⟩,
      ⟨.l 74, .p .mv, [.v 0], none⟩,
      ⟨.l 75, .p .mv, [.v 1], none⟩,
      ⟨.l 76, .p .mv, [.v 0], none⟩,
      ⟨.l 77, .p .mv, [.v 1], none⟩,
      ⟨.l 78, .p (.ixa 3), [.l 76, .l 77], none⟩,
      ⟨.l 79, .r (.ld true 3), [.l 78], none⟩,
      ⟨.l 80, .p .mv, [.v 0], none⟩,
      ⟨.l 81, .p .mv, [.v 13], none⟩,
      ⟨.l 82, .p (.ixa 3), [.l 80, .l 81], none⟩,
      ⟨.l 83, .r (.ld true 3), [.l 82], none⟩,
      ⟨.l 84, .p (.ixa 3), [.l 72, .l 73], none⟩,
      ⟨.no, .l (.st 3), [.l 84, .l 79], none⟩,
      ⟨.l 85, .p (.ixa 3), [.l 74, .l 75], none⟩,
      ⟨.no, .l (.st 3), [.l 85, .l 83], none⟩])
    (.seq
    (.reg [⟨.l 86, .p .mv, [.v 13], none⟩,
      ⟨.v 10, .p .mv, [.l 86], none⟩,
      ⟨.v 11, .p .mv, [.k (.m (.b true))], none⟩])
    .ret))
    .skip))
  (.seq
  (.reg [⟨.l 87, .p .mv, [.v 0], none⟩,
    ⟨.l 88, .p .mv, [.v 12], none⟩,
    ⟨.l 89, .p .mv, [.v 0], none⟩,
    ⟨.l 90, .p .mv, [.v 13], none⟩,
    ⟨.l 91, .p .mv, [.v 0], none⟩,
    ⟨.l 92, .p .mv, [.v 13], none⟩,
    ⟨.l 93, .p (.ixa 3), [.l 91, .l 92], none⟩,
    ⟨.l 94, .r (.ld true 3), [.l 93], none⟩,
    ⟨.l 95, .p .mv, [.v 0], none⟩,
    ⟨.l 96, .p .mv, [.v 12], none⟩,
    ⟨.l 97, .p (.ixa 3), [.l 95, .l 96], none⟩,
    ⟨.l 98, .r (.ld true 3), [.l 97], none⟩,
    ⟨.l 99, .p (.ixa 3), [.l 87, .l 88], none⟩,
    ⟨.no, .l (.st 3), [.l 99, .l 94], none⟩,
    ⟨.l 100, .p (.ixa 3), [.l 89, .l 90], none⟩,
    ⟨.no, .l (.st 3), [.l 100, .l 98], none⟩])
  (.seq
  (.reg [⟨.l 101, .p .mv, [.v 12], none⟩,
    ⟨.l 102, .p (.bin .add), [.l 101, .k (.m (.i .i64 1))], none⟩,
    ⟨.v 12, .p .mv, [.l 102], none⟩])
  (.seq
  (.reg [⟨.l 103, .p .mv, [.v 13], none⟩,
    ⟨.l 104, .p (.bin .sub), [.l 103, .k (.m (.i .i64 1))], none⟩,
    ⟨.v 13, .p .mv, [.l 104], none⟩])
  (.seq
  (.blk 4
  c94_L4)
  (.seq
  (.reg [⟨.l 163, .p .mv, [.v 0], none⟩,
    ⟨.l 164, .p .mv, [.v 13], none⟩,
    ⟨.l 165, .p .mv, [.v 0], none⟩,
    ⟨.l 166, .p .mv, [.v 1], none⟩,
    ⟨.l 167, .p .mv, [.v 0], none⟩,
    ⟨.l 168, .p .mv, [.v 1], none⟩,
    ⟨.l 169, .p (.ixa 3), [.l 167, .l 168], none⟩,
    ⟨.l 170, .r (.ld true 3), [.l 169], none⟩,
    ⟨.l 171, .p .mv, [.v 0], none⟩,
    ⟨.l 172, .p .mv, [.v 13], none⟩,
    ⟨.l 173, .p (.ixa 3), [.l 171, .l 172], none⟩,
    ⟨.l 174, .r (.ld true 3), [.l 173], none⟩,
    ⟨.l 175, .p (.ixa 3), [.l 163, .l 164], none⟩,
    ⟨.no, .l (.st 3), [.l 175, .l 170], none⟩,
    ⟨.l 176, .p (.ixa 3), [.l 165, .l 166], none⟩,
    ⟨.no, .l (.st 3), [.l 176, .l 174], none⟩])
  (.seq
  (.reg [⟨.l 177, .p .mv, [.v 13], none⟩,
    ⟨.v 10, .p .mv, [.l 177], none⟩,
    ⟨.v 11, .p .mv, [.k (.m (.b false))], none⟩])
  .ret))))))))))))⟩

/- math/bits.Len32 -/
def c95 : F := ⟨1, [.t 2],
  (.seq
  (.reg [⟨.v 2, .p .mv, [.k (.m (.i .i64 0))], none⟩])
  (.seq
  (.seq
  (.reg [⟨.l 3, .p .mv, [.v 0], none⟩,
    ⟨.v 4, .p (.bin .geq), [.l 3, .k (.m (.i .u32 65536))], none⟩])
  (.ite (.v 4)
    (.seq
    (.reg [⟨.l 5, .p .mv, [.v 0], none⟩,
      ⟨.l 6, .p (.bin .shr), [.l 5, .k (.m (.i .u64 16))], none⟩,
      ⟨.v 0, .p .mv, [.l 6], none⟩])
    (.reg [⟨.v 2, .p .mv, [.k (.m (.i .i64 16))], none⟩]))
    .skip))
  (.seq
  (.seq
  (.reg [⟨.l 7, .p .mv, [.v 0], none⟩,
    ⟨.v 8, .p (.bin .geq), [.l 7, .k (.m (.i .u32 256))], none⟩])
  (.ite (.v 8)
    (.seq
    (.reg [⟨.l 9, .p .mv, [.v 0], none⟩,
      ⟨.l 10, .p (.bin .shr), [.l 9, .k (.m (.i .u64 8))], none⟩,
      ⟨.v 0, .p .mv, [.l 10], none⟩])
    (.reg [⟨.l 11, .p .mv, [.v 2], none⟩,
      ⟨.l 12, .p (.bin .add), [.l 11, .k (.m (.i .i64 8))], none⟩,
      ⟨.v 2, .p .mv, [.l 12], none⟩]))
    .skip))
  (.seq
  (.reg [⟨.l 13, .p .mv, [.v 2], none⟩,
    ⟨.l 14, .p .mv, [.v 0], none⟩,
    ⟨.l 15, .p (.cv .u8), [.l 14], none⟩,
    ⟨.l 16, .p .ixs, [.k (.m (.s [0, 1, 2, 2, 3, 3, 3, 3, 4, 4, 4, 4, 4, 4, 4, 4, 5, 5, 5, 5, 5, 5, 5, 5, 5, 5, 5, 5, 5, 5, 5, 5, 6, 6, 6, 6, 6, 6, 6, 6, 6, 6, 6, 6, 6, 6, 6, 6, 6, 6, 6, 6, 6, 6, 6, 6, 6, 6, 6, 6, 6, 6, 6, 6, 7, 7, 7, 7, 7, 7, 7, 7, 7, 7, 7, 7, 7, 7, 7, 7, 7, 7, 7, 7, 7, 7, 7, 7, 7, 7, 7, 7, 7, 7, 7, 7, 7, 7, 7, 7, 7, 7, 7, 7, 7, 7, 7, 7, 7, 7, 7, 7, 7, 7, 7, 7, 7, 7, 7, 7, 7, 7, 7, 7, 7, 7, 7, 7, 8, 8, 8, 8, 8, 8, 8, 8, 8, 8, 8, 8, 8, 8, 8, 8, 8, 8, 8, 8, 8, 8, 8, 8, 8, 8, 8, 8, 8, 8, 8, 8, 8, 8, 8, 8, 8, 8, 8, 8, 8, 8, 8, 8, 8, 8, 8, 8, 8, 8, 8, 8, 8, 8, 8, 8, 8, 8, 8, 8, 8, 8, 8, 8, 8, 8, 8, 8, 8, 8, 8, 8, 8, 8, 8, 8, 8, 8, 8, 8, 8, 8, 8, 8, 8, 8, 8, 8, 8, 8, 8, 8, 8, 8, 8, 8, 8, 8, 8, 8, 8, 8, 8, 8, 8, 8, 8, 8, 8, 8, 8, 8, 8, 8, 8, 8, 8, 8, 8, 8, 8, 8, 8, 8, 8, 8, 8, 8])), .l 15], none⟩,
    ⟨.l 17, .p (.cv .i64), [.l 16], none⟩,
    ⟨.l 18, .p (.bin .add), [.l 13, .l 17], none⟩,
    ⟨.v 2, .p .mv, [.l 18], none⟩])
  .ret))))⟩

/- slices.siftDownCmpFunc[cellular/api.Cell] -/
def c96_B0 : C :=
  (.blk 1
  (.seq
  (.reg [⟨.l 13, .p .mv, [.v 10], none⟩,
    ⟨.l 14, .p (.bin .mul), [.k (.m (.i .i64 2)), .l 13], none⟩,
    ⟨.l 15, .p (.bin .add), [.l 14, .k (.m (.i .i64 1))], none⟩,
    ⟨.v 11, .p .mv, [.l 15], none⟩])
  (.seq
  (.seq
  (.reg [⟨.l 16, .p .mv, [.v 11], none⟩,
    ⟨.l 17, .p .mv, [.v 2], none⟩,
    ⟨.v 18, .p (.bin .geq), [.l 16, .l 17], none⟩])
  (.ite (.v 18)
    (.ex 0)
    .skip))
  (.seq
  (.seq
  (.reg [⟨.l 19, .p .mv, [.v 11], none⟩,
    ⟨.l 20, .p (.bin .add), [.l 19, .k (.m (.i .i64 1))], none⟩,
    ⟨.l 21, .p .mv, [.v 2], none⟩,
    ⟨.l 22, .p (.bin .lss), [.l 20, .l 21], none⟩,
    ⟨.l 23, .p .mv, [.l 22], none⟩,
    ⟨.l 24, .p .mv, [.v 4], some (.l 23, true)⟩,
    ⟨.l 25, .p .mv, [.v 0], some (.l 23, true)⟩,
    ⟨.l 26, .p .mv, [.v 3], some (.l 23, true)⟩,
    ⟨.l 27, .p .mv, [.v 11], some (.l 23, true)⟩,
    ⟨.l 28, .p (.bin .add), [.l 26, .l 27], some (.l 23, true)⟩,
    ⟨.l 29, .p (.ixa 3), [.l 25, .l 28], some (.l 23, true)⟩,
    ⟨.l 30, .r (.ld true 3), [.l 29], some (.l 23, true)⟩,
    ⟨.l 31, .p .mv, [.v 0], some (.l 23, true)⟩,
    ⟨.l 32, .p .mv, [.v 3], some (.l 23, true)⟩,
    ⟨.l 33, .p .mv, [.v 11], some (.l 23, true)⟩,
    ⟨.l 34, .p (.bin .add), [.l 32, .l 33], some (.l 23, true)⟩,
    ⟨.l 35, .p (.bin .add), [.l 34, .k (.m (.i .i64 1))], some (.l 23, true)⟩,
    ⟨.l 36, .p (.ixa 3), [.l 31, .l 35], some (.l 23, true)⟩,
    ⟨.l 37, .r (.ld true 3), [.l 36], some (.l 23, true)⟩,
    ⟨.l 38, .l .cav, [.l 24, .l 30, .l 37], some (.l 23, true)⟩,
    ⟨.l 39, .p (.bin .lss), [.l 38, .k (.m (.i .i64 0))], some (.l 23, true)⟩,
    ⟨.v 40, .p .pick, [.l 23, .l 39, .k (.m (.b false))], none⟩])
  (.ite (.v 40)
    (.reg [⟨.l 41, .p .mv, [.v 11], none⟩,
      ⟨.l 42, .p (.bin .add), [.l 41, .k (.m (.i .i64 1))], none⟩,
      ⟨.v 11, .p .mv, [.l 42], none⟩])
    .skip))
  (.seq
  (.seq
  (.reg [⟨.l 43, .p .mv, [.v 4], none⟩,
    ⟨.l 44, .p .mv, [.v 0], none⟩,
    ⟨.l 45, .p .mv, [.v 3], none⟩,
    ⟨.l 46, .p .mv, [.v 10], none⟩,
    ⟨.l 47, .p (.bin .add), [.l 45, .l 46], none⟩,
    ⟨.l 48, .p (.ixa 3), [.l 44, .l 47], none⟩,
    ⟨.l 49, .r (.ld true 3), [.l 48], none⟩,
    ⟨.l 50, .p .mv, [.v 0], none⟩,
    ⟨.l 51, .p .mv, [.v 3], none⟩,
    ⟨.l 52, .p .mv, [.v 11], none⟩,
    ⟨.l 53, .p (.bin .add), [.l 51, .l 52], none⟩,
    ⟨.l 54, .p (.ixa 3), [.l 50, .l 53], none⟩,
    ⟨.l 55, .r (.ld true 3), [.l 54], none⟩,
    ⟨.l 56, .l .cav, [.l 43, .l 49, .l 55], none⟩,
    ⟨.l 57, .p (.bin .lss), [.l 56, .k (.m (.i .i64 0))], none⟩,
    ⟨.v 58, .p (.un .not), [.l 57], none⟩])
  (.ite (.v 58)
    .ret
    .skip))
  (.seq
  (.reg [⟨.l 59, .p .mv, [.v 0], none⟩,
    ⟨.l 60, .p .mv, [.v 3], none⟩,
    ⟨.l 61, .p .mv, [.v 10], none⟩,
    ⟨.l 62, .p (.bin .add), [.l 60, .l 61], none⟩,
    ⟨.l 63, .p .mv, [.v 0], none⟩,
    ⟨.l 64, .p .mv, [.v 3], none⟩,
    ⟨.l 65, .p .mv, [.v 11], none⟩,
    ⟨.l 66, .p (.bin .add), [.l 64, .l 65], none⟩,
    ⟨.l 67, .p .mv, [.v 0], none⟩,
    ⟨.l 68, .p .mv, [.v 3], none⟩,
    ⟨.l 69, .p .mv, [.v 11], none⟩,
    ⟨.l 70, .p (.bin .add), [.l 68, .l 69], none⟩,
    ⟨.l 71, .p (.ixa 3), [.l 67, .l 70], none⟩,
    ⟨.l 72, .r (.ld true 3), [.l 71], none⟩,
    ⟨.l 73, .p .mv, [.v 0], none⟩,
    ⟨.l 74, .p .mv, [.v 3], none⟩,
    ⟨.l 75, .p .mv, [.v 10], none⟩,
    ⟨.l 76, .p (.bin .add), [.l 74, .l 75], none⟩,
    ⟨.l 77, .p (.ixa 3), [.l 73, .l 76], none⟩,
    ⟨.l 78, .r (.ld true 3), [.l 77], none⟩,
    ⟨.l 79, .p (.ixa 3), [.l 59, .l 62], none⟩,
    ⟨.no, .l (.st 3), [.l 79, .l 72], none⟩,
    ⟨.l 80, .p (.ixa 3), [.l 63, .l 66], none⟩,
    ⟨.no, .l (.st 3), [.l 80, .l 78], none⟩])
  (.reg [⟨.l 81, .p .mv, [.v 11], none⟩,
    ⟨.v 10, .p .mv, [.l 81], none⟩])))))))
def c96_L0 : C := .loop [1, 11, 18, 40, 58] c96_B0
def c96 : F := ⟨5, [],
  (.seq
  (.reg [⟨.l 12, .p .mv, [.v 1], none⟩,
    ⟨.v 10, .p .mv, [.l 12], none⟩])
  (.blk 0
  c96_L0))⟩

/- slices.nextPowerOfTwo -/
def c97 : F := ⟨1, [.t 2],
  (.seq
  (.reg [⟨.v 2, .p .mv, [.k (.m (.i .u64 0))], none⟩])
  (.seq
  (.reg [⟨.l 3, .p .mv, [.v 0], none⟩,
    ⟨.l 4, .p (.cv .u64), [.l 3], none⟩,
    ⟨.l 5, .l (.cal 84), [.l 4], none⟩,
    ⟨.l 6, .p (.bin .shl), [.k (.m (.i .u64 1)), .l 5], none⟩,
    ⟨.v 2, .p .mv, [.l 6], none⟩])
  .ret))⟩

/- (*slices.xorshift).Next -/
def c98 : F := ⟨1, [.t 2],
  (.seq
  (.reg [⟨.v 2, .p .mv, [.k (.m (.i .u64 0))], none⟩])
  (.seq
  (.reg [⟨.l 3, .p .mv, [.v 0], none⟩,
    ⟨.l 4, .p .nck, [.l 3], none⟩,
    ⟨.l 5, .r (.ld false 1), [.l 4], none⟩,
    ⟨.l 6, .p .mv, [.v 0], none⟩,
    ⟨.l 7, .p .nck, [.l 6], none⟩,
    ⟨.l 8, .r (.ld false 1), [.l 7], none⟩,
    ⟨.l 9, .p (.bin .shl), [.l 8, .k (.m (.i .u64 13))], none⟩,
    ⟨.l 10, .p (.bin .xor), [.l 5, .l 9], none⟩,
    ⟨.l 11, .p .nck, [.l 3], none⟩,
    ⟨.no, .l (.st 1), [.l 11, .l 10], none⟩])
  (.seq
  (.reg [⟨.l 12, .p .mv, [.v 0], none⟩,
    ⟨.l 13, .p .nck, [.l 12], none⟩,
    ⟨.l 14, .r (.ld false 1), [.l 13], none⟩,
    ⟨.l 15, .p .mv, [.v 0], none⟩,
    ⟨.l 16, .p .nck, [.l 15], none⟩,
    ⟨.l 17, .r (.ld false 1), [.l 16], none⟩,
    ⟨.l 18, .p (.bin .shr), [.l 17, .k (.m (.i .u64 7))], none⟩,
    ⟨.l 19, .p (.bin .xor), [.l 14, .l 18], none⟩,
    ⟨.l 20, .p .nck, [.l 12], none⟩,
    ⟨.no, .l (.st 1), [.l 20, .l 19], none⟩])
  (.seq
  (.reg [⟨.l 21, .p .mv, [.v 0], none⟩,
    ⟨.l 22, .p .nck, [.l 21], none⟩,
    ⟨.l 23, .r (.ld false 1), [.l 22], none⟩,
    ⟨.l 24, .p .mv, [.v 0], none⟩,
    ⟨.l 25, .p .nck, [.l 24], none⟩,
    ⟨.l 26, .r (.ld false 1), [.l 25], none⟩,
    ⟨.l 27, .p (.bin .shl), [.l 26, .k (.m (.i .u64 17))], none⟩,
    ⟨.l 28, .p (.bin .xor), [.l 23, .l 27], none⟩,
    ⟨.l 29, .p .nck, [.l 21], none⟩,
    ⟨.no, .l (.st 1), [.l 29, .l 28], none⟩])
  (.seq
  (.reg [⟨.l 30, .p .mv, [.v 0], none⟩,
    ⟨.l 31, .p .nck, [.l 30], none⟩,
    ⟨.l 32, .r (.ld false 1), [.l 31], none⟩,
    ⟨.v 2, .p .mv, [.l 32], none⟩])
  .ret)))))⟩

/- slices.medianAdjacentCmpFunc[cellular/api.Cell] -/
def c99 : F := ⟨4, [.t 8],
  (.seq
  (.reg [⟨.v 8, .p .mv, [.k (.m (.i .i64 0))], none⟩])
  (.seq
  (.reg [⟨.l 9, .p .mv, [.v 0], none⟩,
    ⟨.l 10, .p .mv, [.v 1], none⟩,
    ⟨.l 11, .p (.bin .sub), [.l 10, .k (.m (.i .i64 1))], none⟩,
    ⟨.l 12, .p .mv, [.v 1], none⟩,
    ⟨.l 13, .p .mv, [.v 1], none⟩,
    ⟨.l 14, .p (.bin .add), [.l 13, .k (.m (.i .i64 1))], none⟩,
    ⟨.l 15, .p .mv, [.v 2], none⟩,
    ⟨.l 16, .p .mv, [.v 3], none⟩,
    ⟨.l 17, .l (.cal 100), [.l 9, .l 11, .l 12, .l 14, .l 15, .l 16], none⟩,
    ⟨.v 8, .p .mv, [.l 17], none⟩])
  .ret))⟩

/- slices.medianCmpFunc[cellular/api.Cell] -/
def c100 : F := ⟨6, [.t 12],
  (.seq
  (.reg [⟨.v 12, .p .mv, [.k (.m (.i .i64 0))], none⟩])
  (.seq
  (.reg [⟨.l 14, .p .mv, [.v 0], none⟩,
    ⟨.l 15, .p .mv, [.v 1], none⟩,
    ⟨.l 16, .p .mv, [.v 2], none⟩,
    ⟨.l 17, .p .mv, [.v 4], none⟩,
    ⟨.l 18, .p .mv, [.v 5], none⟩,
    ⟨.l 19, .l (.cal 101), [.l 14, .l 15, .l 16, .l 17, .l 18], none⟩,
    ⟨.l 13, .p .mv, [.l 19], none⟩,
    ⟨.l 20, .p (.ext 0), [.l 13], none⟩,
    ⟨.l 21, .p (.ext 1), [.l 13], none⟩,
    ⟨.v 1, .p .mv, [.l 20], none⟩,
    ⟨.v 2, .p .mv, [.l 21], none⟩])
  (.seq
  (.reg [⟨.l 23, .p .mv, [.v 0], none⟩,
    ⟨.l 24, .p .mv, [.v 2], none⟩,
    ⟨.l 25, .p .mv, [.v 3], none⟩,
    ⟨.l 26, .p .mv, [.v 4], none⟩,
    ⟨.l 27, .p .mv, [.v 5], none⟩,
    ⟨.l 28, .l (.cal 101), [.l 23, .l 24, .l 25, .l 26, .l 27], none⟩,
    ⟨.l 22, .p .mv, [.l 28], none⟩,
    ⟨.l 29, .p (.ext 0), [.l 22], none⟩,
    ⟨.l 30, .p (.ext 1), [.l 22], none⟩,
    ⟨.v 2, .p .mv, [.l 29], none⟩,
    ⟨.v 3, .p .mv, [.l 30], none⟩])
  (.seq
  (.reg [⟨.l 32, .p .mv, [.v 0], none⟩,
    ⟨.l 33, .p .mv, [.v 1], none⟩,
    ⟨.l 34, .p .mv, [.v 2], none⟩,
    ⟨.l 35, .p .mv, [.v 4], none⟩,
    ⟨.l 36, .p .mv, [.v 5], none⟩,
    ⟨.l 37, .l (.cal 101), [.l 32, .l 33, .l 34, .l 35, .l 36], none⟩,
    ⟨.l 31, .p .mv, [.l 37], none⟩,
    ⟨.l 38, .p (.ext 0), [.l 31], none⟩,
    ⟨.l 39, .p (.ext 1), [.l 31], none⟩,
    ⟨.v 1, .p .mv, [.l 38], none⟩,
    ⟨.v 2, .p .mv, [.l 39], none⟩])
  (.seq
  (.reg [⟨.l 40, .p .mv, [.v 2], none⟩,
    ⟨.v 12, .p .mv, [.l 40], none⟩])
  .ret)))))⟩

/- slices.order2CmpFunc[cellular/api.Cell] -/
def c101 : F := ⟨5, [.t 10, .t 11],
  (.seq
  (.reg [⟨.v 10, .p .mv, [.k (.m (.i .i64 0))], none⟩,
    ⟨.v 11, .p .mv, [.k (.m (.i .i64 0))], none⟩])
  (.seq
  (.seq
  (.reg [⟨.l 12, .p .mv, [.v 4], none⟩,
    ⟨.l 13, .p .mv, [.v 0], none⟩,
    ⟨.l 14, .p .mv, [.v 2], none⟩,
    ⟨.l 15, .p (.ixa 3), [.l 13, .l 14], none⟩,
    ⟨.l 16, .r (.ld true 3), [.l 15], none⟩,
    ⟨.l 17, .p .mv, [.v 0], none⟩,
    ⟨.l 18, .p .mv, [.v 1], none⟩,
    ⟨.l 19, .p (.ixa 3), [.l 17, .l 18], none⟩,
    ⟨.l 20, .r (.ld true 3), [.l 19], none⟩,
    ⟨.l 21, .l .cav, [.l 12, .l 16, .l 20], none⟩,
    ⟨.v 22, .p (.bin .lss), [.l 21, .k (.m (.i .i64 0))], none⟩])
  (.ite (.v 22)
    (.seq
    (.reg [⟨.l 23, .p .mv, [.v 3], none⟩,
      ⟨.l 24, .p .nck, [.l 23], none⟩,
      ⟨.l 25, .r (.ld false 1), [.l 24], none⟩,
      ⟨.l 26, .p (.bin .add), [.l 25, .k (.m (.i .i64 1))], none⟩,
      ⟨.l 27, .p .nck, [.l 23], none⟩,
      ⟨.no, .l (.st 1), [.l 27, .l 26], none⟩])
    (.seq
    (.reg [⟨.l 28, .p .mv, [.v 2], none⟩,
      ⟨.l 29, .p .mv, [.v 1], none⟩,
      ⟨.v 10, .p .mv, [.l 28], none⟩,
      ⟨.v 11, .p .mv, [.l 29], none⟩])
    .ret))
    .skip))
  (.seq
  (.reg [⟨.l 30, .p .mv, [.v 1], none⟩,
    ⟨.l 31, .p .mv, [.v 2], none⟩,
    ⟨.v 10, .p .mv, [.l 30], none⟩,
    ⟨.v 11, .p .mv, [.l 31], none⟩])
  .ret)))⟩

/- gosem.cut.vars -/
def c125 : F := ⟨0, [],
  (.seq
  (.reg [⟨.l 0, .p (.build [.m (.i .u8 0), .m (.i .u8 0), .m (.i .u8 0), .m (.i .u8 0), .m (.i .u8 0), .m (.i .u8 0), .m (.i .u8 0), .m (.i .u8 0), .m (.i .u8 0), .m (.i .u8 0), .m (.i .u8 0), .m (.i .u8 0), .m (.i .u8 0), .m (.i .u8 0), .m (.i .u8 0), .m (.i .u8 0), .m (.i .u8 0), .m (.i .u8 0), .m (.i .u8 0), .m (.i .u8 0), .m (.i .u8 0), .m (.i .u8 0), .m (.i .u8 0), .m (.i .u8 0), .m (.i .u8 0), .m (.i .u8 0), .m (.i .u8 0), .m (.i .u8 0), .m (.i .u8 0), .m (.i .u8 0), .m (.i .u8 0), .m (.i .u8 0)] [(0, 1), (1, 1), (2, 1), (3, 1), (4, 1), (5, 1), (6, 1), (7, 1), (8, 1), (9, 1), (10, 1), (11, 1), (12, 1), (13, 1), (14, 1), (15, 1), (16, 1), (17, 1), (18, 1), (19, 1), (20, 1), (21, 1), (22, 1), (23, 1), (24, 1), (25, 1), (26, 1), (27, 1), (28, 1), (29, 1), (30, 1), (31, 1)]), [.k (.m (.i .u8 0)), .k (.m (.i .u8 1)), .k (.m (.i .u8 28)), .k (.m (.i .u8 2)), .k (.m (.i .u8 29)), .k (.m (.i .u8 14)), .k (.m (.i .u8 24)), .k (.m (.i .u8 3)), .k (.m (.i .u8 30)), .k (.m (.i .u8 22)), .k (.m (.i .u8 20)), .k (.m (.i .u8 15)), .k (.m (.i .u8 25)), .k (.m (.i .u8 17)), .k (.m (.i .u8 4)), .k (.m (.i .u8 8)), .k (.m (.i .u8 31)), .k (.m (.i .u8 27)), .k (.m (.i .u8 13)), .k (.m (.i .u8 23)), .k (.m (.i .u8 21)), .k (.m (.i .u8 19)), .k (.m (.i .u8 16)), .k (.m (.i .u8 7)), .k (.m (.i .u8 26)), .k (.m (.i .u8 12)), .k (.m (.i .u8 18)), .k (.m (.i .u8 6)), .k (.m (.i .u8 11)), .k (.m (.i .u8 5)), .k (.m (.i .u8 10)), .k (.m (.i .u8 9))], none⟩,
    ⟨.no, .l (.st 32), [.k (.m (.pt g1)), .l 0], none⟩])
  (.seq
  (.reg [⟨.l 1, .p (.build [.m (.i .u8 0), .m (.i .u8 0), .m (.i .u8 0), .m (.i .u8 0), .m (.i .u8 0), .m (.i .u8 0), .m (.i .u8 0), .m (.i .u8 0), .m (.i .u8 0), .m (.i .u8 0), .m (.i .u8 0), .m (.i .u8 0), .m (.i .u8 0), .m (.i .u8 0), .m (.i .u8 0), .m (.i .u8 0), .m (.i .u8 0), .m (.i .u8 0), .m (.i .u8 0), .m (.i .u8 0), .m (.i .u8 0), .m (.i .u8 0), .m (.i .u8 0), .m (.i .u8 0), .m (.i .u8 0), .m (.i .u8 0), .m (.i .u8 0), .m (.i .u8 0), .m (.i .u8 0), .m (.i .u8 0), .m (.i .u8 0), .m (.i .u8 0), .m (.i .u8 0), .m (.i .u8 0), .m (.i .u8 0), .m (.i .u8 0), .m (.i .u8 0), .m (.i .u8 0), .m (.i .u8 0), .m (.i .u8 0), .m (.i .u8 0), .m (.i .u8 0), .m (.i .u8 0), .m (.i .u8 0), .m (.i .u8 0), .m (.i .u8 0), .m (.i .u8 0), .m (.i .u8 0), .m (.i .u8 0), .m (.i .u8 0), .m (.i .u8 0), .m (.i .u8 0), .m (.i .u8 0), .m (.i .u8 0), .m (.i .u8 0), .m (.i .u8 0), .m (.i .u8 0), .m (.i .u8 0), .m (.i .u8 0), .m (.i .u8 0), .m (.i .u8 0), .m (.i .u8 0), .m (.i .u8 0), .m (.i .u8 0)] [(0, 1), (1, 1), (2, 1), (3, 1), (4, 1), (5, 1), (6, 1), (7, 1), (8, 1), (9, 1), (10, 1), (11, 1), (12, 1), (13, 1), (14, 1), (15, 1), (16, 1), (17, 1), (18, 1), (19, 1), (20, 1), (21, 1), (22, 1), (23, 1), (24, 1), (25, 1), (26, 1), (27, 1), (28, 1), (29, 1), (30, 1), (31, 1), (32, 1), (33, 1), (34, 1), (35, 1), (36, 1), (37, 1), (38, 1), (39, 1), (40, 1), (41, 1), (42, 1), (43, 1), (44, 1), (45, 1), (46, 1), (47, 1), (48, 1), (49, 1), (50, 1), (51, 1), (52, 1), (53, 1), (54, 1), (55, 1), (56, 1), (57, 1), (58, 1), (59, 1), (60, 1), (61, 1), (62, 1), (63, 1)]), [.k (.m (.i .u8 0)), .k (.m (.i .u8 1)), .k (.m (.i .u8 56)), .k (.m (.i .u8 2)), .k (.m (.i .u8 57)), .k (.m (.i .u8 49)), .k (.m (.i .u8 28)), .k (.m (.i .u8 3)), .k (.m (.i .u8 61)), .k (.m (.i .u8 58)), .k (.m (.i .u8 42)), .k (.m (.i .u8 50)), .k (.m (.i .u8 38)), .k (.m (.i .u8 29)), .k (.m (.i .u8 17)), .k (.m (.i .u8 4)), .k (.m (.i .u8 62)), .k (.m (.i .u8 47)), .k (.m (.i .u8 59)), .k (.m (.i .u8 36)), .k (.m (.i .u8 45)), .k (.m (.i .u8 43)), .k (.m (.i .u8 51)), .k (.m (.i .u8 22)), .k (.m (.i .u8 53)), .k (.m (.i .u8 39)), .k (.m (.i .u8 33)), .k (.m (.i .u8 30)), .k (.m (.i .u8 24)), .k (.m (.i .u8 18)), .k (.m (.i .u8 12)), .k (.m (.i .u8 5)), .k (.m (.i .u8 63)), .k (.m (.i .u8 55)), .k (.m (.i .u8 48)), .k (.m (.i .u8 27)), .k (.m (.i .u8 60)), .k (.m (.i .u8 41)), .k (.m (.i .u8 37)), .k (.m (.i .u8 16)), .k (.m (.i .u8 46)), .k (.m (.i .u8 35)), .k (.m (.i .u8 44)), .k (.m (.i .u8 21)), .k (.m (.i .u8 52)), .k (.m (.i .u8 32)), .k (.m (.i .u8 23)), .k (.m (.i .u8 11)), .k (.m (.i .u8 54)), .k (.m (.i .u8 26)), .k (.m (.i .u8 40)), .k (.m (.i .u8 15)), .k (.m (.i .u8 34)), .k (.m (.i .u8 20)), .k (.m (.i .u8 31)), .k (.m (.i .u8 10)), .k (.m (.i .u8 25)), .k (.m (.i .u8 14)), .k (.m (.i .u8 19)), .k (.m (.i .u8 9)), .k (.m (.i .u8 13)), .k (.m (.i .u8 8)), .k (.m (.i .u8 7)), .k (.m (.i .u8 6))], none⟩,
    ⟨.no, .l (.st 64), [.k (.m (.pt g2)), .l 1], none⟩])
  (.reg [⟨.l 2, .p (.build [.m (.i .u64 0), .m (.i .u64 0), .m (.i .u64 0), .m (.i .u64 0), .m (.i .u64 0), .m (.i .u64 0), .m (.i .u64 0), .m (.i .u64 0), .m (.i .u64 0), .m (.i .u64 0), .m (.i .u64 0), .m (.i .u64 0), .m (.i .u64 0), .m (.i .u64 0), .m (.i .u64 0), .m (.i .u64 0), .m (.i .u64 0), .m (.i .u64 0), .m (.i .u64 0), .m (.i .u64 0)] [(0, 1), (1, 1), (2, 1), (3, 1), (4, 1), (5, 1), (6, 1), (7, 1), (8, 1), (9, 1), (10, 1), (11, 1), (12, 1), (13, 1), (14, 1), (15, 1), (16, 1), (17, 1), (18, 1), (19, 1)]), [.k (.m (.i .u64 1)), .k (.m (.i .u64 10)), .k (.m (.i .u64 100)), .k (.m (.i .u64 1000)), .k (.m (.i .u64 10000)), .k (.m (.i .u64 100000)), .k (.m (.i .u64 1000000)), .k (.m (.i .u64 10000000)), .k (.m (.i .u64 100000000)), .k (.m (.i .u64 1000000000)), .k (.m (.i .u64 10000000000)), .k (.m (.i .u64 100000000000)), .k (.m (.i .u64 1000000000000)), .k (.m (.i .u64 10000000000000)), .k (.m (.i .u64 100000000000000)), .k (.m (.i .u64 1000000000000000)), .k (.m (.i .u64 10000000000000000)), .k (.m (.i .u64 100000000000000000)), .k (.m (.i .u64 1000000000000000000)), .k (.m (.i .u64 10000000000000000000))], none⟩,
    ⟨.no, .l (.st 20), [.k (.m (.pt g0)), .l 2], none⟩])))⟩


end Go.Mx.Tryd
