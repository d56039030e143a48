/- The compact code of the functions of this seat, printed by a program of my own; XComp checks it against the translation. -/
import Derived.Test.YtjkepihkilnjiaaDoorRng
import Derived.Test.YtjkepihkilnjiaaDoorCode0
set_option maxRecDepth 100000
namespace Go.Mx.Tryd

/- slices.partitionCmpFunc[cellular/api.Cell] -/
def c94_B0 : C :=
  (.seq
  (.seq
  (.reg [⟨.l 32, .p .mv, [.v 12], none⟩,
    ⟨.l 33, .p .mv, [.v 13], none⟩,
    ⟨.l 34, .p (.bin .leq), [.l 32, .l 33], none⟩,
    ⟨.l 35, .p .mv, [.l 34], none⟩,
    ⟨.l 36, .p .mv, [.v 4], some (.l 35, true)⟩,
    ⟨.l 37, .p .mv, [.v 0], some (.l 35, true)⟩,
    ⟨.l 38, .p .mv, [.v 12], some (.l 35, true)⟩,
    ⟨.l 39, .p (.ixa 3), [.l 37, .l 38], some (.l 35, true)⟩,
    ⟨.l 40, .r (.ld true 3), [.l 39], some (.l 35, true)⟩,
    ⟨.l 41, .p .mv, [.v 0], some (.l 35, true)⟩,
    ⟨.l 42, .p .mv, [.v 1], some (.l 35, true)⟩,
    ⟨.l 43, .p (.ixa 3), [.l 41, .l 42], some (.l 35, true)⟩,
    ⟨.l 44, .r (.ld true 3), [.l 43], some (.l 35, true)⟩,
    ⟨.l 45, .l .cav, [.l 36, .l 40, .l 44], some (.l 35, true)⟩,
    ⟨.l 46, .p (.bin .lss), [.l 45, .k (.m (.i .i64 0))], some (.l 35, true)⟩,
    ⟨.v 47, .p .pick, [.l 35, .l 46, .k (.m (.b false))], none⟩])
  (.ite (.v 47)
    .skip
    (.ex 0)))
  (.blk 1
  (.reg [⟨.l 48, .p .mv, [.v 12], none⟩,
    ⟨.l 49, .p (.bin .add), [.l 48, .k (.m (.i .i64 1))], none⟩,
    ⟨.v 12, .p .mv, [.l 49], none⟩])))
def c94_L0 : C := .loop [2, 3, 10, 11, 47] c94_B0
def c94_B1 : C :=
  (.seq
  (.seq
  (.reg [⟨.l 50, .p .mv, [.v 12], none⟩,
    ⟨.l 51, .p .mv, [.v 13], none⟩,
    ⟨.l 52, .p (.bin .leq), [.l 50, .l 51], none⟩,
    ⟨.l 53, .p .mv, [.l 52], none⟩,
    ⟨.l 54, .p .mv, [.v 4], some (.l 53, true)⟩,
    ⟨.l 55, .p .mv, [.v 0], some (.l 53, true)⟩,
    ⟨.l 56, .p .mv, [.v 13], some (.l 53, true)⟩,
    ⟨.l 57, .p (.ixa 3), [.l 55, .l 56], some (.l 53, true)⟩,
    ⟨.l 58, .r (.ld true 3), [.l 57], some (.l 53, true)⟩,
    ⟨.l 59, .p .mv, [.v 0], some (.l 53, true)⟩,
    ⟨.l 60, .p .mv, [.v 1], some (.l 53, true)⟩,
    ⟨.l 61, .p (.ixa 3), [.l 59, .l 60], some (.l 53, true)⟩,
    ⟨.l 62, .r (.ld true 3), [.l 61], some (.l 53, true)⟩,
    ⟨.l 63, .l .cav, [.l 54, .l 58, .l 62], some (.l 53, true)⟩,
    ⟨.l 64, .p (.bin .lss), [.l 63, .k (.m (.i .i64 0))], some (.l 53, true)⟩,
    ⟨.l 65, .p (.un .not), [.l 64], some (.l 53, true)⟩,
    ⟨.v 66, .p .pick, [.l 53, .l 65, .k (.m (.b false))], none⟩])
  (.ite (.v 66)
    .skip
    (.ex 2)))
  (.blk 3
  (.reg [⟨.l 67, .p .mv, [.v 13], none⟩,
    ⟨.l 68, .p (.bin .sub), [.l 67, .k (.m (.i .i64 1))], none⟩,
    ⟨.v 13, .p .mv, [.l 68], none⟩])))
def c94_L1 : C := .loop [47, 66] c94_B1
def c94_B2 : C :=
  (.seq
  (.seq
  (.reg [⟨.l 105, .p .mv, [.v 12], none⟩,
    ⟨.l 106, .p .mv, [.v 13], none⟩,
    ⟨.l 107, .p (.bin .leq), [.l 105, .l 106], none⟩,
    ⟨.l 108, .p .mv, [.l 107], none⟩,
    ⟨.l 109, .p .mv, [.v 4], some (.l 108, true)⟩,
    ⟨.l 110, .p .mv, [.v 0], some (.l 108, true)⟩,
    ⟨.l 111, .p .mv, [.v 12], some (.l 108, true)⟩,
    ⟨.l 112, .p (.ixa 3), [.l 110, .l 111], some (.l 108, true)⟩,
    ⟨.l 113, .r (.ld true 3), [.l 112], some (.l 108, true)⟩,
    ⟨.l 114, .p .mv, [.v 0], some (.l 108, true)⟩,
    ⟨.l 115, .p .mv, [.v 1], some (.l 108, true)⟩,
    ⟨.l 116, .p (.ixa 3), [.l 114, .l 115], some (.l 108, true)⟩,
    ⟨.l 117, .r (.ld true 3), [.l 116], some (.l 108, true)⟩,
    ⟨.l 118, .l .cav, [.l 109, .l 113, .l 117], some (.l 108, true)⟩,
    ⟨.l 119, .p (.bin .lss), [.l 118, .k (.m (.i .i64 0))], some (.l 108, true)⟩,
    ⟨.v 120, .p .pick, [.l 108, .l 119, .k (.m (.b false))], none⟩])
  (.ite (.v 120)
    .skip
    (.ex 6)))
  (.blk 7
  (.reg [⟨.l 121, .p .mv, [.v 12], none⟩,
    ⟨.l 122, .p (.bin .add), [.l 121, .k (.m (.i .i64 1))], none⟩,
    ⟨.v 12, .p .mv, [.l 122], none⟩])))
def c94_L2 : C := .loop [66, 71, 120, 139, 144] c94_B2
def c94_B3 : C :=
  (.seq
  (.seq
  (.reg [⟨.l 123, .p .mv, [.v 12], none⟩,
    ⟨.l 124, .p .mv, [.v 13], none⟩,
    ⟨.l 125, .p (.bin .leq), [.l 123, .l 124], none⟩,
    ⟨.l 126, .p .mv, [.l 125], none⟩,
    ⟨.l 127, .p .mv, [.v 4], some (.l 126, true)⟩,
    ⟨.l 128, .p .mv, [.v 0], some (.l 126, true)⟩,
    ⟨.l 129, .p .mv, [.v 13], some (.l 126, true)⟩,
    ⟨.l 130, .p (.ixa 3), [.l 128, .l 129], some (.l 126, true)⟩,
    ⟨.l 131, .r (.ld true 3), [.l 130], some (.l 126, true)⟩,
    ⟨.l 132, .p .mv, [.v 0], some (.l 126, true)⟩,
    ⟨.l 133, .p .mv, [.v 1], some (.l 126, true)⟩,
    ⟨.l 134, .p (.ixa 3), [.l 132, .l 133], some (.l 126, true)⟩,
    ⟨.l 135, .r (.ld true 3), [.l 134], some (.l 126, true)⟩,
    ⟨.l 136, .l .cav, [.l 127, .l 131, .l 135], some (.l 126, true)⟩,
    ⟨.l 137, .p (.bin .lss), [.l 136, .k (.m (.i .i64 0))], some (.l 126, true)⟩,
    ⟨.l 138, .p (.un .not), [.l 137], some (.l 126, true)⟩,
    ⟨.v 139, .p .pick, [.l 126, .l 138, .k (.m (.b false))], none⟩])
  (.ite (.v 139)
    .skip
    (.ex 8)))
  (.blk 9
  (.reg [⟨.l 140, .p .mv, [.v 13], none⟩,
    ⟨.l 141, .p (.bin .sub), [.l 140, .k (.m (.i .i64 1))], none⟩,
    ⟨.v 13, .p .mv, [.l 141], none⟩])))
def c94_L3 : C := .loop [120, 139] c94_B3
def c94_B4 : C :=
  (.blk 5
  (.seq
  (.blk 6
  c94_L2)
  (.seq
  (.blk 8
  c94_L3)
  (.seq
  (.seq
  (.reg [⟨.l 142, .p .mv, [.v 12], none⟩,
    ⟨.l 143, .p .mv, [.v 13], none⟩,
    ⟨.v 144, .p (.bin .gtr), [.l 142, .l 143], none⟩])
  (.ite (.v 144)
    (.ex 4)
    .skip))
  (.seq
  (.reg [⟨.l 145, .p .mv, [.v 0], none⟩,
    ⟨.l 146, .p .mv, [.v 12], none⟩,
    ⟨.l 147, .p .mv, [.v 0], none⟩,
    ⟨.l 148, .p .mv, [.v 13], none⟩,
    ⟨.l 149, .p .mv, [.v 0], none⟩,
    ⟨.l 150, .p .mv, [.v 13], none⟩,
    ⟨.l 151, .p (.ixa 3), [.l 149, .l 150], none⟩,
    ⟨.l 152, .r (.ld true 3), [.l 151], none⟩,
    ⟨.l 153, .p .mv, [.v 0], none⟩,
    ⟨.l 154, .p .mv, [.v 12], none⟩,
    ⟨.l 155, .p (.ixa 3), [.l 153, .l 154], none⟩,
    ⟨.l 156, .r (.ld true 3), [.l 155], none⟩,
    ⟨.l 157, .p (.ixa 3), [.l 145, .l 146], none⟩,
    ⟨.no, .l (.st 3), [.l 157, .l 152], none⟩,
    ⟨.l 158, .p (.ixa 3), [.l 147, .l 148], none⟩,
    ⟨.no, .l (.st 3), [.l 158, .l 156], none⟩])
  (.seq
  (.reg [⟨.l 159, .p .mv, [.v 12], none⟩,
    ⟨.l 160, .p (.bin .add), [.l 159, .k (.m (.i .i64 1))], none⟩,
    ⟨.v 12, .p .mv, [.l 160], none⟩])
  (.reg [⟨.l 161, .p .mv, [.v 13], none⟩,
    ⟨.l 162, .p (.bin .sub), [.l 161, .k (.m (.i .i64 1))], none⟩,
    ⟨.v 13, .p .mv, [.l 162], none⟩])))))))
def c94_L4 : C := .loop [66, 71, 120, 139, 144] c94_B4
def c94 : F := ⟨5, [.t 10, .t 11],
  (.seq
  (.reg [⟨.v 10, .p .mv, [.k (.m (.i .i64 0))], none⟩,
    ⟨.v 11, .p .mv, [.k (.m (.b false))], none⟩])
  (.seq
  (.reg [⟨.l 14, .p .mv, [.v 0], none⟩,
    ⟨.l 15, .p .mv, [.v 1], none⟩,
    ⟨.l 16, .p .mv, [.v 0], none⟩,
    ⟨.l 17, .p .mv, [.v 3], none⟩,
    ⟨.l 18, .p .mv, [.v 0], none⟩,
    ⟨.l 19, .p .mv, [.v 3], none⟩,
    ⟨.l 20, .p (.ixa 3), [.l 18, .l 19], none⟩,
    ⟨.l 21, .r (.ld true 3), [.l 20], none⟩,
    ⟨.l 22, .p .mv, [.v 0], none⟩,
    ⟨.l 23, .p .mv, [.v 1], none⟩,
    ⟨.l 24, .p (.ixa 3), [.l 22, .l 23], none⟩,
    ⟨.l 25, .r (.ld true 3), [.l 24], none⟩,
    ⟨.l 26, .p (.ixa 3), [.l 14, .l 15], none⟩,
    ⟨.no, .l (.st 3), [.l 26, .l 21], none⟩,
    ⟨.l 27, .p (.ixa 3), [.l 16, .l 17], none⟩,
    ⟨.no, .l (.st 3), [.l 27, .l 25], none⟩])
  (.seq
  (.reg [⟨.l 28, .p .mv, [.v 1], none⟩,
    ⟨.l 29, .p (.bin .add), [.l 28, .k (.m (.i .i64 1))], none⟩,
    ⟨.l 30, .p .mv, [.v 2], none⟩,
    ⟨.l 31, .p (.bin .sub), [.l 30, .k (.m (.i .i64 1))], none⟩,
    ⟨.v 12, .p .mv, [.l 29], none⟩,
    ⟨.v 13, .p .mv, [.l 31], none⟩])
  (.seq
  (.blk 0
  c94_L0)
  (.seq
  (.blk 2
  c94_L1)
  (.seq
  (.seq
  (.reg [⟨.l 69, .p .mv, [.v 12], none⟩,
    ⟨.l 70, .p .mv, [.v 13], none⟩,
    ⟨.v 71, .p (.bin .gtr), [.l 69, .l 70], none⟩])
  (.ite (.v 71)
    (.seq
    (.reg [⟨.l 72, .p .mv, [.v 0], none⟩,
      ⟨.l 73, .p .mv, [.v 13], none⟩,
      ⟨.l 74, .p .mv, [.v 0], none⟩,
      ⟨.l 75, .p .mv, [.v 1], none⟩,
      ⟨.l 76, .p .mv, [.v 0], none⟩,
      ⟨.l 77, .p .mv, [.v 1], none⟩,
      ⟨.l 78, .p (.ixa 3), [.l 76, .l 77], none⟩,
      ⟨.l 79, .r (.ld true 3), [.l 78], none⟩,
      ⟨.l 80, .p .mv, [.v 0], none⟩,
      ⟨.l 81, .p .mv, [.v 13], none⟩,
      ⟨.l 82, .p (.ixa 3), [.l 80, .l 81], none⟩,
      ⟨.l 83, .r (.ld true 3), [.l 82], none⟩,
      ⟨.l 84, .p (.ixa 3), [.l 72, .l 73], none⟩,
      ⟨.no, .l (.st 3), [.l 84, .l 79], none⟩,
      ⟨.l 85, .p (.ixa 3), [.l 74, .l 75], none⟩,
      ⟨.no, .l (.st 3), [.l 85, .l 83], none⟩])
    (.seq
    (.reg [⟨.l 86, .p .mv, [.v 13], none⟩,
      ⟨.v 10, .p .mv, [.l 86], none⟩,
      ⟨.v 11, .p .mv, [.k (.m (.b true))], none⟩])
    .ret))
    .skip))
  (.seq
  (.reg [⟨.l 87, .p .mv, [.v 0], none⟩,
    ⟨.l 88, .p .mv, [.v 12], none⟩,
    ⟨.l 89, .p .mv, [.v 0], none⟩,
    ⟨.l 90, .p .mv, [.v 13], none⟩,
    ⟨.l 91, .p .mv, [.v 0], none⟩,
    ⟨.l 92, .p .mv, [.v 13], none⟩,
    ⟨.l 93, .p (.ixa 3), [.l 91, .l 92], none⟩,
    ⟨.l 94, .r (.ld true 3), [.l 93], none⟩,
    ⟨.l 95, .p .mv, [.v 0], none⟩,
    ⟨.l 96, .p .mv, [.v 12], none⟩,
    ⟨.l 97, .p (.ixa 3), [.l 95, .l 96], none⟩,
    ⟨.l 98, .r (.ld true 3), [.l 97], none⟩,
    ⟨.l 99, .p (.ixa 3), [.l 87, .l 88], none⟩,
    ⟨.no, .l (.st 3), [.l 99, .l 94], none⟩,
    ⟨.l 100, .p (.ixa 3), [.l 89, .l 90], none⟩,
    ⟨.no, .l (.st 3), [.l 100, .l 98], none⟩])
  (.seq
  (.reg [⟨.l 101, .p .mv, [.v 12], none⟩,
    ⟨.l 102, .p (.bin .add), [.l 101, .k (.m (.i .i64 1))], none⟩,
    ⟨.v 12, .p .mv, [.l 102], none⟩])
  (.seq
  (.reg [⟨.l 103, .p .mv, [.v 13], none⟩,
    ⟨.l 104, .p (.bin .sub), [.l 103, .k (.m (.i .i64 1))], none⟩,
    ⟨.v 13, .p .mv, [.l 104], none⟩])
  (.seq
  (.blk 4
  c94_L4)
  (.seq
  (.reg [⟨.l 163, .p .mv, [.v 0], none⟩,
    ⟨.l 164, .p .mv, [.v 13], none⟩,
    ⟨.l 165, .p .mv, [.v 0], none⟩,
    ⟨.l 166, .p .mv, [.v 1], none⟩,
    ⟨.l 167, .p .mv, [.v 0], none⟩,
    ⟨.l 168, .p .mv, [.v 1], none⟩,
    ⟨.l 169, .p (.ixa 3), [.l 167, .l 168], none⟩,
    ⟨.l 170, .r (.ld true 3), [.l 169], none⟩,
    ⟨.l 171, .p .mv, [.v 0], none⟩,
    ⟨.l 172, .p .mv, [.v 13], none⟩,
    ⟨.l 173, .p (.ixa 3), [.l 171, .l 172], none⟩,
    ⟨.l 174, .r (.ld true 3), [.l 173], none⟩,
    ⟨.l 175, .p (.ixa 3), [.l 163, .l 164], none⟩,
    ⟨.no, .l (.st 3), [.l 175, .l 170], none⟩,
    ⟨.l 176, .p (.ixa 3), [.l 165, .l 166], none⟩,
    ⟨.no, .l (.st 3), [.l 176, .l 174], none⟩])
  (.seq
  (.reg [⟨.l 177, .p .mv, [.v 13], none⟩,
    ⟨.v 10, .p .mv, [.l 177], none⟩,
    ⟨.v 11, .p .mv, [.k (.m (.b false))], none⟩])
  .ret))))))))))))⟩

/- math/bits.Len32 -/
def c95 : F := ⟨1, [.t 2],
  (.seq
  (.reg [⟨.v 2, .p .mv, [.k (.m (.i .i64 0))], none⟩])
  (.seq
  (.seq
  (.reg [⟨.l 3, .p .mv, [.v 0], none⟩,
    ⟨.v 4, .p (.bin .geq), [.l 3, .k (.m (.i .u32 65536))], none⟩])
  (.ite (.v 4)
    (.seq
    (.reg [⟨.l 5, .p .mv, [.v 0], none⟩,
      ⟨.l 6, .p (.bin .shr), [.l 5, .k (.m (.i .u64 16))], none⟩,
      ⟨.v 0, .p .mv, [.l 6], none⟩])
    (.reg [⟨.v 2, .p .mv, [.k (.m (.i .i64 16))], none⟩]))
    .skip))
  (.seq
  (.seq
  (.reg [⟨.l 7, .p .mv, [.v 0], none⟩,
    ⟨.v 8, .p (.bin .geq), [.l 7, .k (.m (.i .u32 256))], none⟩])
  (.ite (.v 8)
    (.seq
    (.reg [⟨.l 9, .p .mv, [.v 0], none⟩,
      ⟨.l 10, .p (.bin .shr), [.l 9, .k (.m (.i .u64 8))], none⟩,
      ⟨.v 0, .p .mv, [.l 10], none⟩])
    (.reg [⟨.l 11, .p .mv, [.v 2], none⟩,
      ⟨.l 12, .p (.bin .add), [.l 11, .k (.m (.i .i64 8))], none⟩,
      ⟨.v 2, .p .mv, [.l 12], none⟩]))
    .skip))
  (.seq
  (.reg [⟨.l 13, .p .mv, [.v 2], none⟩,
    ⟨.l 14, .p .mv, [.v 0], none⟩,
    ⟨.l 15, .p (.cv .u8), [.l 14], none⟩,
    ⟨.l 16, .p .ixs, [.k (.m (.s [0, 1, 2, 2, 3, 3, 3, 3, 4, 4, 4, 4, 4, 4, 4, 4, 5, 5, 5, 5, 5, 5, 5, 5, 5, 5, 5, 5, 5, 5, 5, 5, 6, 6, 6, 6, 6, 6, 6, 6, 6, 6, 6, 6, 6, 6, 6, 6, 6, 6, 6, 6, 6, 6, 6, 6, 6, 6, 6, 6, 6, 6, 6, 6, 7, 7, 7, 7, 7, 7, 7, 7, 7, 7, 7, 7, 7, 7, 7, 7, 7, 7, 7, 7, 7, 7, 7, 7, 7, 7, 7, 7, 7, 7, 7, 7, 7, 7, 7, 7, 7, 7, 7, 7, 7, 7, 7, 7, 7, 7, 7, 7, 7, 7, 7, 7, 7, 7, 7, 7, 7, 7, 7, 7, 7, 7, 7, 7, 8, 8, 8, 8, 8, 8, 8, 8, 8, 8, 8, 8, 8, 8, 8, 8, 8, 8, 8, 8, 8, 8, 8, 8, 8, 8, 8, 8, 8, 8, 8, 8, 8, 8, 8, 8, 8, 8, 8, 8, 8, 8, 8, 8, 8, 8, 8, 8, 8, 8, 8, 8, 8, 8, 8, 8, 8, 8, 8, 8, 8, 8, 8, 8, 8, 8, 8, 8, 8, 8, 8, 8, 8, 8, 8, 8, 8, 8, 8, 8, 8, 8, 8, 8, 8, 8, 8, 8, 8, 8, 8, 8, 8, 8, 8, 8, 8, 8, 8, 8, 8, 8, 8, 8, 8, 8, 8, 8, 8, 8, 8, 8, 8, 8, 8, 8, 8, 8, 8, 8, 8, 8, 8, 8, 8, 8, 8, 8])), .l 15], none⟩,
    ⟨.l 17, .p (.cv .i64), [.l 16], none⟩,
    ⟨.l 18, .p (.bin .add), [.l 13, .l 17], none⟩,
    ⟨.v 2, .p .mv, [.l 18], none⟩])
  .ret))))⟩

/- slices.siftDownCmpFunc[cellular/api.Cell] -/
def c96_B0 : C :=
  (.blk 1
  (.seq
  (.reg [⟨.l 13, .p .mv, [.v 10], none⟩,
    ⟨.l 14, .p (.bin .mul), [.k (.m (.i .i64 2)), .l 13], none⟩,
    ⟨.l 15, .p (.bin .add), [.l 14, .k (.m (.i .i64 1))], none⟩,
    ⟨.v 11, .p .mv, [.l 15], none⟩])
  (.seq
  (.seq
  (.reg [⟨.l 16, .p .mv, [.v 11], none⟩,
    ⟨.l 17, .p .mv, [.v 2], none⟩,
    ⟨.v 18, .p (.bin .geq), [.l 16, .l 17], none⟩])
  (.ite (.v 18)
    (.ex 0)
    .skip))
  (.seq
  (.seq
  (.reg [⟨.l 19, .p .mv, [.v 11], none⟩,
    ⟨.l 20, .p (.bin .add), [.l 19, .k (.m (.i .i64 1))], none⟩,
    ⟨.l 21, .p .mv, [.v 2], none⟩,
    ⟨.l 22, .p (.bin .lss), [.l 20, .l 21], none⟩,
    ⟨.l 23, .p .mv, [.l 22], none⟩,
    ⟨.l 24, .p .mv, [.v 4], some (.l 23, true)⟩,
    ⟨.l 25, .p .mv, [.v 0], some (.l 23, true)⟩,
    ⟨.l 26, .p .mv, [.v 3], some (.l 23, true)⟩,
    ⟨.l 27, .p .mv, [.v 11], some (.l 23, true)⟩,
    ⟨.l 28, .p (.bin .add), [.l 26, .l 27], some (.l 23, true)⟩,
    ⟨.l 29, .p (.ixa 3), [.l 25, .l 28], some (.l 23, true)⟩,
    ⟨.l 30, .r (.ld true 3), [.l 29], some (.l 23, true)⟩,
    ⟨.l 31, .p .mv, [.v 0], some (.l 23, true)⟩,
    ⟨.l 32, .p .mv, [.v 3], some (.l 23, true)⟩,
    ⟨.l 33, .p .mv, [.v 11], some (.l 23, true)⟩,
    ⟨.l 34, .p (.bin .add), [.l 32, .l 33], some (.l 23, true)⟩,
    ⟨.l 35, .p (.bin .add), [.l 34, .k (.m (.i .i64 1))], some (.l 23, true)⟩,
    ⟨.l 36, .p (.ixa 3), [.l 31, .l 35], some (.l 23, true)⟩,
    ⟨.l 37, .r (.ld true 3), [.l 36], some (.l 23, true)⟩,
    ⟨.l 38, .l .cav, [.l 24, .l 30, .l 37], some (.l 23, true)⟩,
    ⟨.l 39, .p (.bin .lss), [.l 38, .k (.m (.i .i64 0))], some (.l 23, true)⟩,
    ⟨.v 40, .p .pick, [.l 23, .l 39, .k (.m (.b false))], none⟩])
  (.ite (.v 40)
    (.reg [⟨.l 41, .p .mv, [.v 11], none⟩,
      ⟨.l 42, .p (.bin .add), [.l 41, .k (.m (.i .i64 1))], none⟩,
      ⟨.v 11, .p .mv, [.l 42], none⟩])
    .skip))
  (.seq
  (.seq
  (.reg [⟨.l 43, .p .mv, [.v 4], none⟩,
    ⟨.l 44, .p .mv, [.v 0], none⟩,
    ⟨.l 45, .p .mv, [.v 3], none⟩,
    ⟨.l 46, .p .mv, [.v 10], none⟩,
    ⟨.l 47, .p (.bin .add), [.l 45, .l 46], none⟩,
    ⟨.l 48, .p (.ixa 3), [.l 44, .l 47], none⟩,
    ⟨.l 49, .r (.ld true 3), [.l 48], none⟩,
    ⟨.l 50, .p .mv, [.v 0], none⟩,
    ⟨.l 51, .p .mv, [.v 3], none⟩,
    ⟨.l 52, .p .mv, [.v 11], none⟩,
    ⟨.l 53, .p (.bin .add), [.l 51, .l 52], none⟩,
    ⟨.l 54, .p (.ixa 3), [.l 50, .l 53], none⟩,
    ⟨.l 55, .r (.ld true 3), [.l 54], none⟩,
    ⟨.l 56, .l .cav, [.l 43, .l 49, .l 55], none⟩,
    ⟨.l 57, .p (.bin .lss), [.l 56, .k (.m (.i .i64 0))], none⟩,
    ⟨.v 58, .p (.un .not), [.l 57], none⟩])
  (.ite (.v 58)
    .ret
    .skip))
  (.seq
  (.reg [⟨.l 59, .p .mv, [.v 0], none⟩,
    ⟨.l 60, .p .mv, [.v 3], none⟩,
    ⟨.l 61, .p .mv, [.v 10], none⟩,
    ⟨.l 62, .p (.bin .add), [.l 60, .l 61], none⟩,
    ⟨.l 63, .p .mv, [.v 0], none⟩,
    ⟨.l 64, .p .mv, [.v 3], none⟩,
    ⟨.l 65, .p .mv, [.v 11], none⟩,
    ⟨.l 66, .p (.bin .add), [.l 64, .l 65], none⟩,
    ⟨.l 67, .p .mv, [.v 0], none⟩,
    ⟨.l 68, .p .mv, [.v 3], none⟩,
    ⟨.l 69, .p .mv, [.v 11], none⟩,
    ⟨.l 70, .p (.bin .add), [.l 68, .l 69], none⟩,
    ⟨.l 71, .p (.ixa 3), [.l 67, .l 70], none⟩,
    ⟨.l 72, .r (.ld true 3), [.l 71], none⟩,
    ⟨.l 73, .p .mv, [.v 0], none⟩,
    ⟨.l 74, .p .mv, [.v 3], none⟩,
    ⟨.l 75, .p .mv, [.v 10], none⟩,
    ⟨.l 76, .p (.bin .add), [.l 74, .l 75], none⟩,
    ⟨.l 77, .p (.ixa 3), [.l 73, .l 76], none⟩,
    ⟨.l 78, .r (.ld true 3), [.l 77], none⟩,
    ⟨.l 79, .p (.ixa 3), [.l 59, .l 62], none⟩,
    ⟨.no, .l (.st 3), [.l 79, .l 72], none⟩,
    ⟨.l 80, .p (.ixa 3), [.l 63, .l 66], none⟩,
    ⟨.no, .l (.st 3), [.l 80, .l 78], none⟩])
  (.reg [⟨.l 81, .p .mv, [.v 11], none⟩,
    ⟨.v 10, .p .mv, [.l 81], none⟩])))))))
def c96_L0 : C := .loop [1, 11, 18, 40, 58] c96_B0
def c96 : F := ⟨5, [],
  (.seq
  (.reg [⟨.l 12, .p .mv, [.v 1], none⟩,
    ⟨.v 10, .p .mv, [.l 12], none⟩])
  (.blk 0
  c96_L0))⟩

/- slices.nextPowerOfTwo -/
def c97 : F := ⟨1, [.t 2],
  (.seq
  (.reg [⟨.v 2, .p .mv, [.k (.m (.i .u64 0))], none⟩])
  (.seq
  (.reg [⟨.l 3, .p .mv, [.v 0], none⟩,
    ⟨.l 4, .p (.cv .u64), [.l 3], none⟩,
    ⟨.l 5, .l (.cal 84), [.l 4], none⟩,
    ⟨.l 6, .p (.bin .shl), [.k (.m (.i .u64 1)), .l 5], none⟩,
    ⟨.v 2, .p .mv, [.l 6], none⟩])
  .ret))⟩

/- (*slices.xorshift).Next -/
def c98 : F := ⟨1, [.t 2],
  (.seq
  (.reg [⟨.v 2, .p .mv, [.k (.m (.i .u64 0))], none⟩])
  (.seq
  (.reg [⟨.l 3, .p .mv, [.v 0], none⟩,
    ⟨.l 4, .p .nck, [.l 3], none⟩,
    ⟨.l 5, .r (.ld false 1), [.l 4], none⟩,
    ⟨.l 6, .p .mv, [.v 0], none⟩,
    ⟨.l 7, .p .nck, [.l 6], none⟩,
    ⟨.l 8, .r (.ld false 1), [.l 7], none⟩,
    ⟨.l 9, .p (.bin .shl), [.l 8, .k (.m (.i .u64 13))], none⟩,
    ⟨.l 10, .p (.bin .xor), [.l 5, .l 9], none⟩,
    ⟨.l 11, .p .nck, [.l 3], none⟩,
    ⟨.no, .l (.st 1), [.l 11, .l 10], none⟩])
  (.seq
  (.reg [⟨.l 12, .p .mv, [.v 0], none⟩,
    ⟨.l 13, .p .nck, [.l 12], none⟩,
    ⟨.l 14, .r (.ld false 1), [.l 13], none⟩,
    ⟨.l 15, .p .mv, [.v 0], none⟩,
    ⟨.l 16, .p .nck, [.l 15], none⟩,
    ⟨.l 17, .r (.ld false 1), [.l 16], none⟩,
    ⟨.l 18, .p (.bin .shr), [.l 17, .k (.m (.i .u64 7))], none⟩,
    ⟨.l 19, .p (.bin .xor), [.l 14, .l 18], none⟩,
    ⟨.l 20, .p .nck, [.l 12], none⟩,
    ⟨.no, .l (.st 1), [.l 20, .l 19], none⟩])
  (.seq
  (.reg [⟨.l 21, .p .mv, [.v 0], none⟩,
    ⟨.l 22, .p .nck, [.l 21], none⟩,
    ⟨.l 23, .r (.ld false 1), [.l 22], none⟩,
    ⟨.l 24, .p .mv, [.v 0], none⟩,
    ⟨.l 25, .p .nck, [.l 24], none⟩,
    ⟨.l 26, .r (.ld false 1), [.l 25], none⟩,
    ⟨.l 27, .p (.bin .shl), [.l 26, .k (.m (.i .u64 17))], none⟩,
    ⟨.l 28, .p (.bin .xor), [.l 23, .l 27], none⟩,
    ⟨.l 29, .p .nck, [.l 21], none⟩,
    ⟨.no, .l (.st 1), [.l 29, .l 28], none⟩])
  (.seq
  (.reg [⟨.l 30, .p .mv, [.v 0], none⟩,
    ⟨.l 31, .p .nck, [.l 30], none⟩,
    ⟨.l 32, .r (.ld false 1), [.l 31], none⟩,
    ⟨.v 2, .p .mv, [.l 32], none⟩])
  .ret)))))⟩

/- slices.medianAdjacentCmpFunc[cellular/api.Cell] -/
def c99 : F := ⟨4, [.t 8],
  (.seq
  (.reg [⟨.v 8, .p .mv, [.k (.m (.i .i64 0))], none⟩])
  (.seq
  (.reg [⟨.l 9, .p .mv, [.v 0], none⟩,
    ⟨.l 10, .p .mv, [.v 1], none⟩,
    ⟨.l 11, .p (.bin .sub), [.l 10, .k (.m (.i .i64 1))], none⟩,
    ⟨.l 12, .p .mv, [.v 1], none⟩,
    ⟨.l 13, .p .mv, [.v 1], none⟩,
    ⟨.l 14, .p (.bin .add), [.l 13, .k (.m (.i .i64 1))], none⟩,
    ⟨.l 15, .p .mv, [.v 2], none⟩,
    ⟨.l 16, .p .mv, [.v 3], none⟩,
    ⟨.l 17, .l (.cal 100), [.l 9, .l 11, .l 12, .l 14, .l 15, .l 16], none⟩,
    ⟨.v 8, .p .mv, [.l 17], none⟩])
  .ret))⟩

/- slices.medianCmpFunc[cellular/api.Cell] -/
def c100 : F := ⟨6, [.t 12],
  (.seq
  (.reg [⟨.v 12, .p .mv, [.k (.m (.i .i64 0))], none⟩])
  (.seq
  (.reg [⟨.l 14, .p .mv, [.v 0], none⟩,
    ⟨.l 15, .p .mv, [.v 1], none⟩,
    ⟨.l 16, .p .mv, [.v 2], none⟩,
    ⟨.l 17, .p .mv, [.v 4], none⟩,
    ⟨.l 18, .p .mv, [.v 5], none⟩,
    ⟨.l 19, .l (.cal 101), [.l 14, .l 15, .l 16, .l 17, .l 18], none⟩,
    ⟨.l 13, .p .mv, [.l 19], none⟩,
    ⟨.l 20, .p (.ext 0), [.l 13], none⟩,
    ⟨.l 21, .p (.ext 1), [.l 13], none⟩,
    ⟨.v 1, .p .mv, [.l 20], none⟩,
    ⟨.v 2, .p .mv, [.l 21], none⟩])
  (.seq
  (.reg [⟨.l 23, .p .mv, [.v 0], none⟩,
    ⟨.l 24, .p .mv, [.v 2], none⟩,
    ⟨.l 25, .p .mv, [.v 3], none⟩,
    ⟨.l 26, .p .mv, [.v 4], none⟩,
    ⟨.l 27, .p .mv, [.v 5], none⟩,
    ⟨.l 28, .l (.cal 101), [.l 23, .l 24, .l 25, .l 26, .l 27], none⟩,
    ⟨.l 22, .p .mv, [.l 28], none⟩,
    ⟨.l 29, .p (.ext 0), [.l 22], none⟩,
    ⟨.l 30, .p (.ext 1), [.l 22], none⟩,
    ⟨.v 2, .p .mv, [.l 29], none⟩,
    ⟨.v 3, .p .mv, [.l 30], none⟩])
  (.seq
  (.reg [⟨.l 32, .p .mv, [.v 0], none⟩,
    ⟨.l 33, .p .mv, [.v 1], none⟩,
    ⟨.l 34, .p .mv, [.v 2], none⟩,
    ⟨.l 35, .p .mv, [.v 4], none⟩,
    ⟨.l 36, .p .mv, [.v 5], none⟩,
    ⟨.l 37, .l (.cal 101), [.l 32, .l 33, .l 34, .l 35, .l 36], none⟩,
    ⟨.l 31, .p .mv, [.l 37], none⟩,
    ⟨.l 38, .p (.ext 0), [.l 31], none⟩,
    ⟨.l 39, .p (.ext 1), [.l 31], none⟩,
    ⟨.v 1, .p .mv, [.l 38], none⟩,
    ⟨.v 2, .p .mv, [.l 39], none⟩])
  (.seq
  (.reg [⟨.l 40, .p .mv, [.v 2], none⟩,
    ⟨.v 12, .p .mv, [.l 40], none⟩])
  .ret)))))⟩

/- slices.order2CmpFunc[cellular/api.Cell] -/
def c101 : F := ⟨5, [.t 10, .t 11],
  (.seq
  (.reg [⟨.v 10, .p .mv, [.k (.m (.i .i64 0))], none⟩,
    ⟨.v 11, .p .mv, [.k (.m (.i .i64 0))], none⟩])
  (.seq
  (.seq
  (.reg [⟨.l 12, .p .mv, [.v 4], none⟩,
    ⟨.l 13, .p .mv, [.v 0], none⟩,
    ⟨.l 14, .p .mv, [.v 2], none⟩,
    ⟨.l 15, .p (.ixa 3), [.l 13, .l 14], none⟩,
    ⟨.l 16, .r (.ld true 3), [.l 15], none⟩,
    ⟨.l 17, .p .mv, [.v 0], none⟩,
    ⟨.l 18, .p .mv, [.v 1], none⟩,
    ⟨.l 19, .p (.ixa 3), [.l 17, .l 18], none⟩,
    ⟨.l 20, .r (.ld true 3), [.l 19], none⟩,
    ⟨.l 21, .l .cav, [.l 12, .l 16, .l 20], none⟩,
    ⟨.v 22, .p (.bin .lss), [.l 21, .k (.m (.i .i64 0))], none⟩])
  (.ite (.v 22)
    (.seq
    (.reg [⟨.l 23, .p .mv, [.v 3], none⟩,
      ⟨.l 24, .p .nck, [.l 23], none⟩,
      ⟨.l 25, .r (.ld false 1), [.l 24], none⟩,
      ⟨.l 26, .p (.bin .add), [.l 25, .k (.m (.i .i64 1))], none⟩,
      ⟨.l 27, .p .nck, [.l 23], none⟩,
      ⟨.no, .l (.st 1), [.l 27, .l 26], none⟩])
    (.seq
    (.reg [⟨.l 28, .p .mv, [.v 2], none⟩,
      ⟨.l 29, .p .mv, [.v 1], none⟩,
      ⟨.v 10, .p .mv, [.l 28], none⟩,
      ⟨.v 11, .p .mv, [.l 29], none⟩])
    .ret))
    .skip))
  (.seq
  (.reg [⟨.l 30, .p .mv, [.v 1], none⟩,
    ⟨.l 31, .p .mv, [.v 2], none⟩,
    ⟨.v 10, .p .mv, [.l 30], none⟩,
    ⟨.v 11, .p .mv, [.l 31], none⟩])
  .ret)))⟩


end Go.Mx.Tryd
