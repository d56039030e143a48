/- The compact code of the functions of this seat, printed by a program of my own; XComp checks it against the translation. -/
import Derived.Test.YtcdcepfigjohfaaGreatDoorRng
import Derived.Test.YtcdcepfigjohfaaGreatDoorCode0
set_option maxRecDepth 100000
namespace Go.Mx.Tryz

/- internal/stringslite.Index -/
def c140_B0 : C :=
  (.seq
  (.seq
  (.reg [⟨.l 57, .p .mv, [.v 8], none⟩,
    ⟨.l 58, .p .mv, [.v 9], none⟩,
    ⟨.v 59, .p (.bin .lss), [.l 57, .l 58], none⟩])
  (.ite (.v 59)
    .skip
    (.ex 1)))
  (.blk 2
  (.seq
  (.seq
  (.reg [⟨.l 60, .p .mv, [.v 0], none⟩,
    ⟨.l 61, .p .mv, [.v 8], none⟩,
    ⟨.l 62, .p .ixs, [.l 60, .l 61], none⟩,
    ⟨.l 63, .p .mv, [.v 6], none⟩,
    ⟨.v 64, .p (.bin .neq), [.l 62, .l 63], none⟩])
  (.ite (.v 64)
    (.seq
    (.reg [⟨.l 65, .p .mv, [.v 0], none⟩,
      ⟨.l 66, .p .mv, [.v 8], none⟩,
      ⟨.l 67, .p (.bin .add), [.l 66, .k (.m (.i .i64 1))], none⟩,
      ⟨.l 68, .p .mv, [.v 9], none⟩,
      ⟨.l 69, .p (.slc 0 true true false), [.l 65, .l 67, .l 68], none⟩,
      ⟨.l 70, .p .mv, [.v 6], none⟩,
      ⟨.l 71, .l (.cal 146), [.l 69, .l 70], none⟩,
      ⟨.v 11, .p .mv, [.l 71], none⟩])
    (.seq
    (.seq
    (.reg [⟨.l 72, .p .mv, [.v 11], none⟩,
      ⟨.v 73, .p (.bin .lss), [.l 72, .k (.m (.i .i64 0))], none⟩])
    (.ite (.v 73)
      (.seq
      (.reg [⟨.v 4, .p .mv, [.k (.m (.i .i64 (-1)))], none⟩])
      .ret)
      .skip))
    (.reg [⟨.l 74, .p .mv, [.v 8], none⟩,
      ⟨.l 75, .p .mv, [.v 11], none⟩,
      ⟨.l 76, .p (.bin .add), [.l 75, .k (.m (.i .i64 1))], none⟩,
      ⟨.l 77, .p (.bin .add), [.l 74, .l 76], none⟩,
      ⟨.v 8, .p .mv, [.l 77], none⟩])))
    .skip))
  (.seq
  (.seq
  (.reg [⟨.l 78, .p .mv, [.v 0], none⟩,
    ⟨.l 79, .p .mv, [.v 8], none⟩,
    ⟨.l 80, .p (.bin .add), [.l 79, .k (.m (.i .i64 1))], none⟩,
    ⟨.l 81, .p .ixs, [.l 78, .l 80], none⟩,
    ⟨.l 82, .p .mv, [.v 7], none⟩,
    ⟨.l 83, .p (.bin .eql), [.l 81, .l 82], none⟩,
    ⟨.l 84, .p .mv, [.l 83], none⟩,
    ⟨.l 85, .p .mv, [.v 0], some (.l 84, true)⟩,
    ⟨.l 86, .p .mv, [.v 8], some (.l 84, true)⟩,
    ⟨.l 87, .p .mv, [.v 8], some (.l 84, true)⟩,
    ⟨.l 88, .p .mv, [.v 5], some (.l 84, true)⟩,
    ⟨.l 89, .p (.bin .add), [.l 87, .l 88], some (.l 84, true)⟩,
    ⟨.l 90, .p (.slc 0 true true false), [.l 85, .l 86, .l 89], some (.l 84, true)⟩,
    ⟨.l 91, .p .mv, [.v 1], some (.l 84, true)⟩,
    ⟨.l 92, .p (.bin .eql), [.l 90, .l 91], some (.l 84, true)⟩,
    ⟨.v 93, .p .pick, [.l 84, .l 92, .k (.m (.b false))], none⟩])
  (.ite (.v 93)
    (.seq
    (.reg [⟨.l 94, .p .mv, [.v 8], none⟩,
      ⟨.v 4, .p .mv, [.l 94], none⟩])
    .ret)
    .skip))
  (.seq
  (.reg [⟨.l 95, .p .mv, [.v 8], none⟩,
    ⟨.l 96, .p (.bin .add), [.l 95, .k (.m (.i .i64 1))], none⟩,
    ⟨.v 8, .p .mv, [.l 96], none⟩])
  (.seq
  (.reg [⟨.l 97, .p .mv, [.v 10], none⟩,
    ⟨.l 98, .p (.bin .add), [.l 97, .k (.m (.i .i64 1))], none⟩,
    ⟨.v 10, .p .mv, [.l 98], none⟩])
  (.seq
  (.reg [⟨.l 99, .p .mv, [.v 5], none⟩,
    ⟨.l 100, .p .mv, [], none⟩,
    ⟨.l 101, .p (.bin .leq), [.l 99, .l 100], none⟩,
    ⟨.l 102, .p .mv, [.l 101], none⟩,
    ⟨.l 103, .p .mv, [.v 10], some (.l 102, true)⟩,
    ⟨.l 104, .p .mv, [.v 8], some (.l 102, true)⟩,
    ⟨.l 105, .l (.cal 148), [.l 104], some (.l 102, true)⟩,
    ⟨.l 106, .p (.bin .gtr), [.l 103, .l 105], some (.l 102, true)⟩,
    ⟨.v 107, .p .pick, [.l 102, .l 106, .k (.m (.b false))], none⟩])
  (.ite (.v 107)
    (.seq
    (.reg [⟨.l 108, .p .mv, [.v 0], none⟩,
      ⟨.l 109, .p .mv, [.v 8], none⟩,
      ⟨.l 110, .p (.slc 0 true false false), [.l 108, .l 109], none⟩,
      ⟨.l 111, .p .mv, [.v 1], none⟩,
      ⟨.l 112, .l (.cal 147), [.l 110, .l 111], none⟩,
      ⟨.v 12, .p .mv, [.l 112], none⟩])
    (.seq
    (.seq
    (.reg [⟨.l 113, .p .mv, [.v 12], none⟩,
      ⟨.v 114, .p (.bin .geq), [.l 113, .k (.m (.i .i64 0))], none⟩])
    (.ite (.v 114)
      (.seq
      (.reg [⟨.l 115, .p .mv, [.v 12], none⟩,
        ⟨.l 116, .p .mv, [.v 8], none⟩,
        ⟨.l 117, .p (.bin .add), [.l 115, .l 116], none⟩,
        ⟨.v 4, .p .mv, [.l 117], none⟩])
      .ret)
      .skip))
    (.seq
    (.reg [⟨.v 4, .p .mv, [.k (.m (.i .i64 (-1)))], none⟩])
    .ret)))
    (.seq
    (.reg [⟨.l 118, .p .mv, [.v 5], none⟩,
      ⟨.l 119, .p .mv, [], none⟩,
      ⟨.l 120, .p (.bin .gtr), [.l 118, .l 119], none⟩,
      ⟨.l 121, .p .mv, [.l 120], none⟩,
      ⟨.l 122, .p .mv, [.v 10], some (.l 121, true)⟩,
      ⟨.l 123, .p .mv, [.v 8], some (.l 121, true)⟩,
      ⟨.l 124, .p (.bin .shr), [.l 123, .k (.m (.i .u64 4))], some (.l 121, true)⟩,
      ⟨.l 125, .p (.bin .add), [.k (.m (.i .i64 4)), .l 124], some (.l 121, true)⟩,
      ⟨.l 126, .p (.bin .geq), [.l 122, .l 125], some (.l 121, true)⟩,
      ⟨.l 127, .p .pick, [.l 121, .l 126, .k (.m (.b false))], none⟩,
      ⟨.l 128, .p .mv, [.l 127], none⟩,
      ⟨.l 129, .p .mv, [.v 8], some (.l 128, true)⟩,
      ⟨.l 130, .p .mv, [.v 9], some (.l 128, true)⟩,
      ⟨.l 131, .p (.bin .lss), [.l 129, .l 130], some (.l 128, true)⟩,
      ⟨.v 132, .p .pick, [.l 128, .l 131, .k (.m (.b false))], none⟩])
    (.ite (.v 132)
      (.seq
      (.reg [⟨.l 133, .p .mv, [.v 0], none⟩,
        ⟨.l 134, .p .mv, [.v 8], none⟩,
        ⟨.l 135, .p (.slc 0 true false false), [.l 133, .l 134], none⟩,
        ⟨.l 136, .p .mv, [.v 1], none⟩,
        ⟨.l 137, .l (.cal 149), [.l 135, .l 136], none⟩,
        ⟨.v 13, .p .mv, [.l 137], none⟩])
      (.seq
      (.seq
      (.reg [⟨.l 138, .p .mv, [.v 13], none⟩,
        ⟨.v 139, .p (.bin .lss), [.l 138, .k (.m (.i .i64 0))], none⟩])
      (.ite (.v 139)
        (.seq
        (.reg [⟨.v 4, .p .mv, [.k (.m (.i .i64 (-1)))], none⟩])
        .ret)
        .skip))
      (.seq
      (.reg [⟨.l 140, .p .mv, [.v 8], none⟩,
        ⟨.l 141, .p .mv, [.v 13], none⟩,
        ⟨.l 142, .p (.bin .add), [.l 140, .l 141], none⟩,
        ⟨.v 4, .p .mv, [.l 142], none⟩])
      .ret)))
      .skip))))))))))
def c140_L0 : C := .loop [4, 11, 16, 24, 31, 36, 59, 64, 73, 93, 107, 132] c140_B0
def c140 : F := ⟨2, [.t 4],
  (.seq
  (.reg [⟨.v 4, .p .mv, [.k (.m (.i .i64 0))], none⟩])
  (.seq
  (.reg [⟨.l 14, .p .mv, [.v 1], none⟩,
    ⟨.l 15, .p (.len true), [.l 14], none⟩,
    ⟨.v 5, .p .mv, [.l 15], none⟩])
  (.seq
  (.blk 0
  (.seq
  (.reg [⟨.l 17, .p .mv, [.v 5], none⟩,
    ⟨.l 18, .p (.bin .eql), [.l 17, .k (.m (.i .i64 0))], none⟩,
    ⟨.l 19, .p .mv, [.l 18], none⟩,
    ⟨.l 20, .p .mv, [.v 1], some (.l 19, false)⟩,
    ⟨.l 21, .p .mv, [.v 0], some (.l 19, false)⟩,
    ⟨.l 22, .p (.bin .eql), [.l 20, .l 21], some (.l 19, false)⟩,
    ⟨.l 23, .p .pick, [.l 19, .k (.m (.b true)), .l 22], none⟩,
    ⟨.v 16, .p .mv, [.l 23], none⟩])
  (.ite (.v 16)
    (.seq
    (.reg [⟨.v 4, .p .mv, [.k (.m (.i .i64 0))], none⟩])
    .ret)
    (.seq
    (.reg [⟨.l 25, .p .mv, [.v 5], none⟩,
      ⟨.l 26, .p (.bin .eql), [.l 25, .k (.m (.i .i64 1))], none⟩,
      ⟨.v 24, .p .mv, [.l 26], none⟩])
    (.ite (.v 24)
      (.seq
      (.reg [⟨.l 27, .p .mv, [.v 0], none⟩,
        ⟨.l 28, .p .mv, [.v 1], none⟩,
        ⟨.l 29, .p .ixs, [.l 28, .k (.m (.i .i64 0))], none⟩,
        ⟨.l 30, .l (.cal 146), [.l 27, .l 29], none⟩,
        ⟨.v 4, .p .mv, [.l 30], none⟩])
      .ret)
      (.seq
      (.reg [⟨.l 32, .p .mv, [.v 5], none⟩,
        ⟨.l 33, .p .mv, [.v 0], none⟩,
        ⟨.l 34, .p (.len true), [.l 33], none⟩,
        ⟨.l 35, .p (.bin .geq), [.l 32, .l 34], none⟩,
        ⟨.v 31, .p .mv, [.l 35], none⟩])
      (.ite (.v 31)
        (.seq
        (.reg [⟨.v 4, .p .mv, [.k (.m (.i .i64 (-1)))], none⟩])
        .ret)
        (.seq
        (.reg [⟨.l 37, .p .mv, [.v 5], none⟩,
          ⟨.l 38, .p .mv, [], none⟩,
          ⟨.l 39, .p (.bin .leq), [.l 37, .l 38], none⟩,
          ⟨.l 40, .p .mv, [.l 39], none⟩,
          ⟨.l 41, .p .mv, [.v 0], some (.l 40, true)⟩,
          ⟨.l 42, .p (.len true), [.l 41], some (.l 40, true)⟩,
          ⟨.l 43, .p (.bin .leq), [.l 42, .k (.m (.i .i64 64))], some (.l 40, true)⟩,
          ⟨.l 44, .p .pick, [.l 40, .l 43, .k (.m (.b false))], none⟩,
          ⟨.v 36, .p .mv, [.l 44], none⟩])
        (.ite (.v 36)
          (.seq
          (.reg [⟨.l 45, .p .mv, [.v 0], none⟩,
            ⟨.l 46, .p .mv, [.v 1], none⟩,
            ⟨.l 47, .l (.cal 147), [.l 45, .l 46], none⟩,
            ⟨.v 4, .p .mv, [.l 47], none⟩])
          .ret)
          .skip)))))))))
  (.seq
  (.reg [⟨.l 48, .p .mv, [.v 1], none⟩,
    ⟨.l 49, .p .ixs, [.l 48, .k (.m (.i .i64 0))], none⟩,
    ⟨.v 6, .p .mv, [.l 49], none⟩])
  (.seq
  (.reg [⟨.l 50, .p .mv, [.v 1], none⟩,
    ⟨.l 51, .p .ixs, [.l 50, .k (.m (.i .i64 1))], none⟩,
    ⟨.v 7, .p .mv, [.l 51], none⟩])
  (.seq
  (.reg [⟨.v 8, .p .mv, [.k (.m (.i .i64 0))], none⟩])
  (.seq
  (.reg [⟨.l 52, .p .mv, [.v 0], none⟩,
    ⟨.l 53, .p (.len true), [.l 52], none⟩,
    ⟨.l 54, .p .mv, [.v 5], none⟩,
    ⟨.l 55, .p (.bin .sub), [.l 53, .l 54], none⟩,
    ⟨.l 56, .p (.bin .add), [.l 55, .k (.m (.i .i64 1))], none⟩,
    ⟨.v 9, .p .mv, [.l 56], none⟩])
  (.seq
  (.reg [⟨.v 10, .p .mv, [.k (.m (.i .i64 0))], none⟩])
  (.seq
  (.blk 1
  c140_L0)
  (.seq
  (.reg [⟨.v 4, .p .mv, [.k (.m (.i .i64 (-1)))], none⟩])
  .ret))))))))))⟩

/- internal/stringslite.Clone -/
def c142 : F := ⟨1, [.t 2],
  (.seq
  (.reg [⟨.v 2, .p .mv, [.k (.m (.s []))], none⟩])
  (.seq
  (.seq
  (.reg [⟨.l 4, .p .mv, [.v 0], none⟩,
    ⟨.l 5, .p (.len true), [.l 4], none⟩,
    ⟨.v 6, .p (.bin .eql), [.l 5, .k (.m (.i .i64 0))], none⟩])
  (.ite (.v 6)
    (.seq
    (.reg [⟨.v 2, .p .mv, [.k (.m (.s []))], none⟩])
    .ret)
    .skip))
  (.seq
  (.reg [⟨.l 7, .p .mv, [.v 0], none⟩,
    ⟨.l 8, .p (.len true), [.l 7], none⟩,
    ⟨.l 9, .l (.mks 5 1 [.m (.i .u8 0)] 1), [.l 8, .l 8], none⟩,
    ⟨.v 3, .p .mv, [.l 9], none⟩])
  (.seq
  (.reg [⟨.l 10, .p .mv, [.v 3], none⟩,
    ⟨.l 11, .p .mv, [.v 0], none⟩,
    ⟨.l 12, .p .mv, [], none⟩])
  (.seq
  (.reg [⟨.l 13, .p .mv, [.v 3], none⟩,
    ⟨.l 14, .p (.ixa 1), [.l 13, .k (.m (.i .i64 0))], none⟩,
    ⟨.l 15, .p .mv, [.v 3], none⟩,
    ⟨.l 16, .p (.len false), [.l 15], none⟩,
    ⟨.l 17, .l (.ust 5), [.l 14, .l 16], none⟩,
    ⟨.v 2, .p .mv, [.l 17], none⟩])
  .ret)))))⟩

/- errors.New -/
def c143 : F := ⟨1, [.t 2],
  (.seq
  (.reg [⟨.v 2, .p .mv, [.k (.m (.nl 3))], none⟩])
  (.seq
  (.reg [⟨.l 3, .p .mv, [.v 0], none⟩,
    ⟨.l 4, .p (.build [.m (.s [])] [(0, 1)]), [.l 3], none⟩,
    ⟨.v 5, .l (.bxs 167 1 1), [.l 4], none⟩,
    ⟨.l 6, .p .mv, [], none⟩,
    ⟨.v 2, .p .mv, [.l 6], none⟩])
  .ret))⟩


end Go.Mx.Tryz
