/- The compact code of the functions of this seat, printed by a program of my own; XComp checks it against the translation. -/
import Derived.Test.YtfllcbohggcmfaaGreatDoorRng
import Derived.Test.YtfllcbohggcmfaaGreatDoorCode0
set_option maxRecDepth 100000
namespace Go.Mx.Tryz

/- strings.IndexRune -/
def c121_B0 : C :=
  (.seq
  (.reg [⟨.v 176, .p .mv, [], none⟩,
    ⟨.v 177, .p (.ext 0), [.v 176], none⟩])
  (.seq
  (.ite (.v 177)
    .skip
    (.ex 9))
  (.blk 10
  (.seq
  (.reg [⟨.l 178, .p (.ext 1), [.v 176], none⟩,
    ⟨.l 179, .p (.ext 2), [.v 176], none⟩,
    ⟨.v 5, .p .mv, [.l 178], none⟩,
    ⟨.v 6, .p .mv, [.l 179], none⟩])
  (.seq
  (.reg [⟨.l 180, .p .mv, [.v 6], none⟩,
    ⟨.v 181, .p (.bin .eql), [.l 180, .k (.m (.i .i32 65533))], none⟩])
  (.ite (.v 181)
    (.seq
    (.reg [⟨.l 182, .p .mv, [.v 5], none⟩,
      ⟨.v 4, .p .mv, [.l 182], none⟩])
    .ret)
    .skip))))))
def c121_L0 : C := .loop [0, 1, 4, 5, 6, 160, 171, 176, 177, 181] c121_B0
def c121_B1 : C :=
  (.seq
  (.seq
  (.reg [⟨.l 48, .p .mv, [.v 12], none⟩,
    ⟨.l 49, .p .mv, [.v 7], none⟩,
    ⟨.l 50, .p (.len true), [.l 49], none⟩,
    ⟨.v 51, .p (.bin .lss), [.l 48, .l 50], none⟩])
  (.ite (.v 51)
    .skip
    (.ex 3)))
  (.seq
  (.blk 4
  (.seq
  (.reg [⟨.l 54, .p .mv, [.v 0], none⟩,
    ⟨.l 55, .p .mv, [.v 9], none⟩,
    ⟨.l 56, .p .mv, [.v 12], none⟩,
    ⟨.l 57, .p (.bin .sub), [.l 55, .l 56], none⟩,
    ⟨.l 58, .p .ixs, [.l 54, .l 57], none⟩,
    ⟨.l 59, .p .mv, [.v 7], none⟩,
    ⟨.l 60, .p .mv, [.v 8], none⟩,
    ⟨.l 61, .p .mv, [.v 12], none⟩,
    ⟨.l 62, .p (.bin .sub), [.l 60, .l 61], none⟩,
    ⟨.l 63, .p .ixs, [.l 59, .l 62], none⟩,
    ⟨.v 64, .p (.bin .neq), [.l 58, .l 63], none⟩])
  (.ite (.v 64)
    (.reg [⟨.no, .p .mv, [], none⟩])
    .skip)))
  (.reg [⟨.l 52, .p .mv, [.v 12], none⟩,
    ⟨.l 53, .p (.bin .add), [.l 52, .k (.m (.i .i64 1))], none⟩,
    ⟨.v 12, .p .mv, [.l 53], none⟩])))
def c121_L1 : C := .loop [11, 26, 33, 43, 51, 64] c121_B1
def c121_B2 : C :=
  (.seq
  (.seq
  (.reg [⟨.l 23, .p .mv, [.v 9], none⟩,
    ⟨.l 24, .p .mv, [.v 0], none⟩,
    ⟨.l 25, .p (.len true), [.l 24], none⟩,
    ⟨.v 26, .p (.bin .lss), [.l 23, .l 25], none⟩])
  (.ite (.v 26)
    .skip
    (.ex 1)))
  (.blk 2
  (.seq
  (.seq
  (.reg [⟨.l 27, .p .mv, [.v 0], none⟩,
    ⟨.l 28, .p .mv, [.v 9], none⟩,
    ⟨.l 29, .p .ixs, [.l 27, .l 28], none⟩,
    ⟨.l 30, .p .mv, [.v 7], none⟩,
    ⟨.l 31, .p .mv, [.v 8], none⟩,
    ⟨.l 32, .p .ixs, [.l 30, .l 31], none⟩,
    ⟨.v 33, .p (.bin .neq), [.l 29, .l 32], none⟩])
  (.ite (.v 33)
    (.seq
    (.reg [⟨.l 34, .p .mv, [.v 0], none⟩,
      ⟨.l 35, .p .mv, [.v 9], none⟩,
      ⟨.l 36, .p (.bin .add), [.l 35, .k (.m (.i .i64 1))], none⟩,
      ⟨.l 37, .p (.slc 0 true false false), [.l 34, .l 36], none⟩,
      ⟨.l 38, .p .mv, [.v 7], none⟩,
      ⟨.l 39, .p .mv, [.v 8], none⟩,
      ⟨.l 40, .p .ixs, [.l 38, .l 39], none⟩,
      ⟨.l 41, .l (.cal 129), [.l 37, .l 40], none⟩,
      ⟨.v 11, .p .mv, [.l 41], none⟩])
    (.seq
    (.seq
    (.reg [⟨.l 42, .p .mv, [.v 11], none⟩,
      ⟨.v 43, .p (.bin .lss), [.l 42, .k (.m (.i .i64 0))], none⟩])
    (.ite (.v 43)
      (.seq
      (.reg [⟨.v 4, .p .mv, [.k (.m (.i .i64 (-1)))], none⟩])
      .ret)
      .skip))
    (.reg [⟨.l 44, .p .mv, [.v 9], none⟩,
      ⟨.l 45, .p .mv, [.v 11], none⟩,
      ⟨.l 46, .p (.bin .add), [.l 45, .k (.m (.i .i64 1))], none⟩,
      ⟨.l 47, .p (.bin .add), [.l 44, .l 46], none⟩,
      ⟨.v 9, .p .mv, [.l 47], none⟩])))
    .skip))
  (.seq
  (.seq
  (.reg [⟨.v 12, .p .mv, [.k (.m (.i .i64 1))], none⟩])
  (.blk 3
  c121_L1))
  (.seq
  (.seq
  (.reg [⟨.l 65, .p .mv, [.v 9], none⟩,
    ⟨.l 66, .p .mv, [.v 8], none⟩,
    ⟨.l 67, .p (.bin .sub), [.l 65, .l 66], none⟩,
    ⟨.v 4, .p .mv, [.l 67], none⟩])
  .ret)
  (.seq
  .skip
  (.seq
  (.reg [⟨.l 68, .p .mv, [.v 10], none⟩,
    ⟨.l 69, .p (.bin .add), [.l 68, .k (.m (.i .i64 1))], none⟩,
    ⟨.v 10, .p .mv, [.l 69], none⟩])
  (.seq
  (.reg [⟨.l 70, .p .mv, [.v 9], none⟩,
    ⟨.l 71, .p (.bin .add), [.l 70, .k (.m (.i .i64 1))], none⟩,
    ⟨.v 9, .p .mv, [.l 71], none⟩])
  (.seq
  (.reg [⟨.l 72, .p .mv, [.k (.m (.b true))], none⟩,
    ⟨.l 73, .p .mv, [.v 10], some (.l 72, true)⟩,
    ⟨.l 74, .p .mv, [.v 9], some (.l 72, true)⟩,
    ⟨.l 75, .l (.cal 95), [.l 74], some (.l 72, true)⟩,
    ⟨.l 76, .p (.bin .gtr), [.l 73, .l 75], some (.l 72, true)⟩,
    ⟨.l 77, .p .pick, [.l 72, .l 76, .k (.m (.b false))], none⟩,
    ⟨.l 78, .p .mv, [.l 77], none⟩,
    ⟨.l 79, .p .mv, [.v 9], some (.l 78, true)⟩,
    ⟨.l 80, .p .mv, [.v 0], some (.l 78, true)⟩,
    ⟨.l 81, .p (.len true), [.l 80], some (.l 78, true)⟩,
    ⟨.l 82, .p (.bin .lss), [.l 79, .l 81], some (.l 78, true)⟩,
    ⟨.l 83, .p .pick, [.l 78, .l 82, .k (.m (.b false))], none⟩,
    ⟨.l 84, .p .mv, [.l 83], none⟩,
    ⟨.l 85, .p .mv, [.k (.m (.b false))], some (.l 84, false)⟩,
    ⟨.l 86, .p .mv, [.v 10], some (.l 85, true)⟩,
    ⟨.l 87, .p .mv, [.v 9], some (.l 85, true)⟩,
    ⟨.l 88, .p (.bin .shr), [.l 87, .k (.m (.i .u64 4))], some (.l 85, true)⟩,
    ⟨.l 89, .p (.bin .add), [.k (.m (.i .i64 4)), .l 88], some (.l 85, true)⟩,
    ⟨.l 90, .p (.bin .geq), [.l 86, .l 89], some (.l 85, true)⟩,
    ⟨.l 91, .p .pick, [.l 85, .l 90, .k (.m (.b false))], some (.l 84, false)⟩,
    ⟨.l 92, .p .mv, [.l 91], some (.l 84, false)⟩,
    ⟨.l 93, .p .mv, [.v 9], some (.l 92, true)⟩,
    ⟨.l 94, .p .mv, [.v 0], some (.l 92, true)⟩,
    ⟨.l 95, .p (.len true), [.l 94], some (.l 92, true)⟩,
    ⟨.l 96, .p (.bin .lss), [.l 93, .l 95], some (.l 92, true)⟩,
    ⟨.l 97, .p .pick, [.l 92, .l 96, .k (.m (.b false))], some (.l 84, false)⟩,
    ⟨.v 98, .p .pick, [.l 84, .k (.m (.b true)), .l 97], none⟩])
  (.ite (.v 98)
    (.reg [⟨.no, .p .mv, [], none⟩])
    .skip))))))))))
def c121_L2 : C := .loop [1, 4, 10, 160, 171, 183] c121_B2
def c121_B3 : C :=
  (.seq
  (.seq
  (.reg [⟨.l 140, .p .mv, [.v 16], none⟩,
    ⟨.l 141, .p .mv, [.v 7], none⟩,
    ⟨.l 142, .p (.len true), [.l 141], none⟩,
    ⟨.v 143, .p (.bin .lss), [.l 140, .l 142], none⟩])
  (.ite (.v 143)
    .skip
    (.ex 7)))
  (.seq
  (.blk 8
  (.seq
  (.reg [⟨.l 146, .p .mv, [.v 0], none⟩,
    ⟨.l 147, .p .mv, [.v 9], none⟩,
    ⟨.l 148, .p .mv, [.v 16], none⟩,
    ⟨.l 149, .p (.bin .sub), [.l 147, .l 148], none⟩,
    ⟨.l 150, .p .ixs, [.l 146, .l 149], none⟩,
    ⟨.l 151, .p .mv, [.v 7], none⟩,
    ⟨.l 152, .p .mv, [.v 8], none⟩,
    ⟨.l 153, .p .mv, [.v 16], none⟩,
    ⟨.l 154, .p (.bin .sub), [.l 152, .l 153], none⟩,
    ⟨.l 155, .p .ixs, [.l 151, .l 154], none⟩,
    ⟨.v 156, .p (.bin .neq), [.l 150, .l 155], none⟩])
  (.ite (.v 156)
    (.ex 6)
    .skip)))
  (.reg [⟨.l 144, .p .mv, [.v 16], none⟩,
    ⟨.l 145, .p (.bin .add), [.l 144, .k (.m (.i .i64 1))], none⟩,
    ⟨.v 16, .p .mv, [.l 145], none⟩])))
def c121_L3 : C := .loop [143, 156] c121_B3
def c121_B4 : C :=
  (.seq
  (.seq
  (.reg [⟨.l 121, .p .mv, [.v 9], none⟩,
    ⟨.l 122, .p .mv, [.v 0], none⟩,
    ⟨.l 123, .p (.len true), [.l 122], none⟩,
    ⟨.v 124, .p (.bin .lss), [.l 121, .l 123], none⟩])
  (.ite (.v 124)
    .skip
    (.ex 5)))
  (.seq
  (.blk 6
  (.seq
  (.reg [⟨.l 127, .p .mv, [.v 0], none⟩,
    ⟨.l 128, .p .mv, [.v 9], none⟩,
    ⟨.l 129, .p .ixs, [.l 127, .l 128], none⟩,
    ⟨.l 130, .p .mv, [.v 14], none⟩,
    ⟨.l 131, .p (.bin .eql), [.l 129, .l 130], none⟩,
    ⟨.l 132, .p .mv, [.l 131], none⟩,
    ⟨.l 133, .p .mv, [.v 0], some (.l 132, true)⟩,
    ⟨.l 134, .p .mv, [.v 9], some (.l 132, true)⟩,
    ⟨.l 135, .p (.bin .sub), [.l 134, .k (.m (.i .i64 1))], some (.l 132, true)⟩,
    ⟨.l 136, .p .ixs, [.l 133, .l 135], some (.l 132, true)⟩,
    ⟨.l 137, .p .mv, [.v 15], some (.l 132, true)⟩,
    ⟨.l 138, .p (.bin .eql), [.l 136, .l 137], some (.l 132, true)⟩,
    ⟨.v 139, .p .pick, [.l 132, .l 138, .k (.m (.b false))], none⟩])
  (.ite (.v 139)
    (.seq
    (.seq
    (.reg [⟨.v 16, .p .mv, [.k (.m (.i .i64 2))], none⟩])
    (.blk 7
    c121_L3))
    (.seq
    (.reg [⟨.l 157, .p .mv, [.v 9], none⟩,
      ⟨.l 158, .p .mv, [.v 8], none⟩,
      ⟨.l 159, .p (.bin .sub), [.l 157, .l 158], none⟩,
      ⟨.v 4, .p .mv, [.l 159], none⟩])
    .ret))
    .skip)))
  (.reg [⟨.l 125, .p .mv, [.v 9], none⟩,
    ⟨.l 126, .p (.bin .add), [.l 125, .k (.m (.i .i64 1))], none⟩,
    ⟨.v 9, .p .mv, [.l 126], none⟩])))
def c121_L4 : C := .loop [4, 16, 124, 139, 143, 156] c121_B4
def c121 : F := ⟨2, [.t 4],
  (.seq
  (.reg [⟨.v 4, .p .mv, [.k (.m (.i .i64 0))], none⟩])
  (.blk 0
  (.seq
  (.reg [⟨.l 161, .p .mv, [.v 1], none⟩,
    ⟨.l 162, .p (.bin .leq), [.k (.m (.i .i32 0)), .l 161], none⟩,
    ⟨.l 163, .p .mv, [.l 162], none⟩,
    ⟨.l 164, .p .mv, [.v 1], some (.l 163, true)⟩,
    ⟨.l 165, .p (.bin .lss), [.l 164, .k (.m (.i .i32 128))], some (.l 163, true)⟩,
    ⟨.l 166, .p .pick, [.l 163, .l 165, .k (.m (.b false))], none⟩,
    ⟨.v 160, .p .mv, [.l 166], none⟩])
  (.ite (.v 160)
    (.seq
    (.reg [⟨.l 167, .p .mv, [.v 0], none⟩,
      ⟨.l 168, .p .mv, [.v 1], none⟩,
      ⟨.l 169, .p (.cv .u8), [.l 168], none⟩,
      ⟨.l 170, .l (.cal 129), [.l 167, .l 169], none⟩,
      ⟨.v 4, .p .mv, [.l 170], none⟩])
    .ret)
    (.seq
    (.reg [⟨.l 172, .p .mv, [.v 1], none⟩,
      ⟨.l 173, .p (.bin .eql), [.l 172, .k (.m (.i .i32 65533))], none⟩,
      ⟨.v 171, .p .mv, [.l 173], none⟩])
    (.ite (.v 171)
      (.seq
      (.seq
      (.reg [⟨.l 174, .p .mv, [.v 0], none⟩,
        ⟨.v 175, .p .mv, [], none⟩])
      (.blk 9
      c121_L0))
      (.seq
      (.reg [⟨.v 4, .p .mv, [.k (.m (.i .i64 (-1)))], none⟩])
      .ret))
      (.seq
      (.reg [⟨.l 184, .p .mv, [.v 1], none⟩,
        ⟨.l 185, .l (.cal 130), [.l 184], none⟩,
        ⟨.l 186, .p (.un .not), [.l 185], none⟩,
        ⟨.v 183, .p .mv, [.l 186], none⟩])
      (.ite (.v 183)
        (.seq
        (.reg [⟨.v 4, .p .mv, [.k (.m (.i .i64 (-1)))], none⟩])
        .ret)
        (.seq
        (.reg [⟨.l 17, .p .mv, [.v 1], none⟩,
          ⟨.l 18, .p .mv, [], none⟩,
          ⟨.v 7, .p .mv, [.l 18], none⟩])
        (.seq
        (.reg [⟨.l 19, .p .mv, [.v 7], none⟩,
          ⟨.l 20, .p (.len true), [.l 19], none⟩,
          ⟨.l 21, .p (.bin .sub), [.l 20, .k (.m (.i .i64 1))], none⟩,
          ⟨.v 8, .p .mv, [.l 21], none⟩])
        (.seq
        (.reg [⟨.l 22, .p .mv, [.v 8], none⟩,
          ⟨.v 9, .p .mv, [.l 22], none⟩])
        (.seq
        (.reg [⟨.v 10, .p .mv, [.k (.m (.i .i64 0))], none⟩])
        (.seq
        (.blk 1
        c121_L2)
        (.seq
        (.seq
        (.reg [⟨.v 4, .p .mv, [.k (.m (.i .i64 (-1)))], none⟩])
        .ret)
        (.seq
        .skip
        (.seq
        (.ite (.k (.m (.b true)))
          (.seq
          (.reg [⟨.l 99, .p .mv, [.v 0], none⟩,
            ⟨.l 100, .p .mv, [.v 9], none⟩,
            ⟨.l 101, .p .mv, [.v 8], none⟩,
            ⟨.l 102, .p (.bin .sub), [.l 100, .l 101], none⟩,
            ⟨.l 103, .p (.slc 0 true false false), [.l 99, .l 102], none⟩,
            ⟨.l 104, .p .mv, [.v 1], none⟩,
            ⟨.l 105, .p .mv, [], none⟩,
            ⟨.l 106, .l (.cal 94), [.l 103, .l 105], none⟩,
            ⟨.v 13, .p .mv, [.l 106], none⟩])
          (.seq
          (.reg [⟨.l 107, .p .mv, [.v 13], none⟩,
            ⟨.v 108, .p (.bin .geq), [.l 107, .k (.m (.i .i64 0))], none⟩])
          (.ite (.v 108)
            (.seq
            (.reg [⟨.l 109, .p .mv, [.v 9], none⟩,
              ⟨.l 110, .p .mv, [.v 13], none⟩,
              ⟨.l 111, .p (.bin .add), [.l 109, .l 110], none⟩,
              ⟨.l 112, .p .mv, [.v 8], none⟩,
              ⟨.l 113, .p (.bin .sub), [.l 111, .l 112], none⟩,
              ⟨.v 4, .p .mv, [.l 113], none⟩])
            .ret)
            .skip)))
          (.seq
          (.reg [⟨.l 114, .p .mv, [.v 7], none⟩,
            ⟨.l 115, .p .mv, [.v 8], none⟩,
            ⟨.l 116, .p .ixs, [.l 114, .l 115], none⟩,
            ⟨.v 14, .p .mv, [.l 116], none⟩])
          (.seq
          (.reg [⟨.l 117, .p .mv, [.v 7], none⟩,
            ⟨.l 118, .p .mv, [.v 8], none⟩,
            ⟨.l 119, .p (.bin .sub), [.l 118, .k (.m (.i .i64 1))], none⟩,
            ⟨.l 120, .p .ixs, [.l 117, .l 119], none⟩,
            ⟨.v 15, .p .mv, [.l 120], none⟩])
          (.seq
          .skip
          (.blk 5
          c121_L4)))))
        (.seq
        (.reg [⟨.v 4, .p .mv, [.k (.m (.i .i64 (-1)))], none⟩])
        .ret)))))))))))))))))⟩

/- slices.order2CmpFunc[cellular/api.Cell] -/
def c126 : F := ⟨5, [.t 10, .t 11],
  (.seq
  (.reg [⟨.v 10, .p .mv, [.k (.m (.i .i64 0))], none⟩,
    ⟨.v 11, .p .mv, [.k (.m (.i .i64 0))], none⟩])
  (.seq
  (.seq
  (.reg [⟨.l 12, .p .mv, [.v 4], none⟩,
    ⟨.l 13, .p .mv, [.v 0], none⟩,
    ⟨.l 14, .p .mv, [.v 2], none⟩,
    ⟨.l 15, .p (.ixa 3), [.l 13, .l 14], none⟩,
    ⟨.l 16, .r (.ld true 3), [.l 15], none⟩,
    ⟨.l 17, .p .mv, [.v 0], none⟩,
    ⟨.l 18, .p .mv, [.v 1], none⟩,
    ⟨.l 19, .p (.ixa 3), [.l 17, .l 18], none⟩,
    ⟨.l 20, .r (.ld true 3), [.l 19], none⟩,
    ⟨.l 21, .l .cav, [.l 12, .l 16, .l 20], none⟩,
    ⟨.v 22, .p (.bin .lss), [.l 21, .k (.m (.i .i64 0))], none⟩])
  (.ite (.v 22)
    (.seq
    (.reg [⟨.l 23, .p .mv, [.v 3], none⟩,
      ⟨.l 24, .p .nck, [.l 23], none⟩,
      ⟨.l 25, .r (.ld false 1), [.l 24], none⟩,
      ⟨.l 26, .p (.bin .add), [.l 25, .k (.m (.i .i64 1))], none⟩,
      ⟨.l 27, .p .nck, [.l 23], none⟩,
      ⟨.no, .l (.st 1), [.l 27, .l 26], none⟩])
    (.seq
    (.reg [⟨.l 28, .p .mv, [.v 2], none⟩,
      ⟨.l 29, .p .mv, [.v 1], none⟩,
      ⟨.v 10, .p .mv, [.l 28], none⟩,
      ⟨.v 11, .p .mv, [.l 29], none⟩])
    .ret))
    .skip))
  (.seq
  (.reg [⟨.l 30, .p .mv, [.v 1], none⟩,
    ⟨.l 31, .p .mv, [.v 2], none⟩,
    ⟨.v 10, .p .mv, [.l 30], none⟩,
    ⟨.v 11, .p .mv, [.l 31], none⟩])
  .ret)))⟩

/- strings.IndexByte -/
def c129 : F := ⟨2, [.t 4],
  (.seq
  (.reg [⟨.v 4, .p .mv, [.k (.m (.i .i64 0))], none⟩])
  (.seq
  (.reg [⟨.l 5, .p .mv, [.v 0], none⟩,
    ⟨.l 6, .p .mv, [.v 1], none⟩,
    ⟨.l 7, .l (.cal 93), [.l 5, .l 6], none⟩,
    ⟨.v 4, .p .mv, [.l 7], none⟩])
  .ret))⟩


end Go.Mx.Tryz
