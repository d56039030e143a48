/- The compact code of the functions of this seat, printed by a program of my own; XComp checks it against the translation. -/
import Derived.Test.YtbpkmkgnkpeefaaGreatDoorRng
set_option maxRecDepth 100000
namespace Go.Mx.Tryz

/- cellular/cellularlaw58.AuditQuads -/
def c3 : F := ⟨1, [.t 2],
  (.seq
  (.reg [⟨.v 1, .l (.bxp 1 2), [.v 0], none⟩,
    ⟨.v 2, .p .mv, [.k (.m (.b false))], none⟩])
  (.seq
  (.seq
  (.reg [⟨.l 4, .p (.fad 1), [.v 1], none⟩,
    ⟨.l 5, .r (.ld false 1), [.l 4], none⟩,
    ⟨.l 6, .p (.len false), [.l 5], none⟩,
    ⟨.v 7, .p (.bin .gtr), [.l 6, .k (.m (.i .i64 400))], none⟩])
  (.ite (.v 7)
    (.seq
    (.reg [⟨.l 8, .l (.cal 6), [], none⟩,
      ⟨.v 2, .p .mv, [.l 8], none⟩])
    .ret)
    .skip))
  (.seq
  (.reg [⟨.l 9, .r (.ld true 2), [.v 1], none⟩,
    ⟨.l 10, .l (.cal 7), [.l 9], none⟩,
    ⟨.v 3, .p .mv, [.l 10], none⟩])
  (.seq
  (.reg [⟨.l 11, .p .mv, [.v 3], none⟩,
    ⟨.l 12, .r (.ld true 2), [.v 1], none⟩,
    ⟨.l 13, .l (.cal 8), [.l 12], none⟩,
    ⟨.l 14, .p (.bin .eql), [.l 11, .l 13], none⟩,
    ⟨.l 15, .p .mv, [.l 14], none⟩,
    ⟨.l 16, .p .mv, [.v 3], some (.l 15, true)⟩,
    ⟨.l 17, .p (.bin .eql), [.l 16, .k (.m (.i .i64 0))], some (.l 15, true)⟩,
    ⟨.l 18, .r (.ld true 2), [.v 1], some (.l 15, true)⟩,
    ⟨.l 19, .l (.cal 9), [.l 18], some (.l 15, true)⟩,
    ⟨.l 20, .p (.eqb false), [.l 17, .l 19], some (.l 15, true)⟩,
    ⟨.l 21, .p .pick, [.l 15, .l 20, .k (.m (.b false))], none⟩,
    ⟨.l 22, .p .mv, [.l 21], none⟩,
    ⟨.l 23, .l (.cal 6), [], some (.l 22, true)⟩,
    ⟨.l 24, .p .pick, [.l 22, .l 23, .k (.m (.b false))], none⟩,
    ⟨.v 2, .p .mv, [.l 24], none⟩])
  .ret))))⟩

/- cellular/cellularlaw58.awake -/
def c6 : F := ⟨0, [.t 0],
  (.seq
  (.reg [⟨.v 0, .p .mv, [.k (.m (.b false))], none⟩])
  (.seq
  (.reg [⟨.l 3, .p (.build [.m (.i .i64 0), .m (.i .i64 0)] []), [], none⟩,
    ⟨.l 4, .p (.bsl 2 [.m (.i .i64 0), .m (.i .i64 0)] 1 [0]), [.l 3], none⟩,
    ⟨.v 1, .p .mv, [.l 4], none⟩])
  (.seq
  (.reg [⟨.l 5, .p (.build [.m (.i .i64 0), .m (.i .i64 0), .m (.i .i64 0), .m (.i .i64 0)] []), [], none⟩,
    ⟨.v 2, .l (.alp 2 [.m (.i .i64 0), .m (.i .i64 0), .m (.i .i64 0), .m (.i .i64 0)]), [], none⟩,
    ⟨.no, .l (.st 4), [.v 2, .l 5], none⟩])
  (.seq
  (.reg [⟨.l 6, .r (.ld true 4), [.v 2], none⟩,
    ⟨.l 7, .r (.ld true 4), [.v 2], none⟩,
    ⟨.l 8, .p (.bsl 4 [.m (.i .i64 0), .m (.i .i64 0), .m (.i .i64 0), .m (.i .i64 0)] 2 [0, 1]), [.l 6, .l 7], none⟩,
    ⟨.l 9, .p (.build [.m (.i .i64 0), .m (.nl 4)] [(0, 1), (1, 1)]), [.k (.m (.i .i64 2)), .l 8], none⟩,
    ⟨.l 10, .l (.cal 7), [.l 9], none⟩,
    ⟨.l 11, .p (.bin .eql), [.l 10, .k (.m (.i .i64 6))], none⟩,
    ⟨.l 12, .p .mv, [.l 11], none⟩,
    ⟨.l 13, .r (.ld true 4), [.v 2], some (.l 12, true)⟩,
    ⟨.l 14, .p (.bsl 4 [.m (.i .i64 0), .m (.i .i64 0), .m (.i .i64 0), .m (.i .i64 0)] 1 [0]), [.l 13], some (.l 12, true)⟩,
    ⟨.l 15, .p (.build [.m (.i .i64 0), .m (.nl 4)] [(0, 1), (1, 1)]), [.k (.m (.i .i64 2)), .l 14], some (.l 12, true)⟩,
    ⟨.l 16, .l (.cal 7), [.l 15], some (.l 12, true)⟩,
    ⟨.l 17, .p (.bin .eql), [.l 16, .k (.m (.i .i64 0))], some (.l 12, true)⟩,
    ⟨.l 18, .p .pick, [.l 12, .l 17, .k (.m (.b false))], none⟩,
    ⟨.l 19, .p .mv, [.l 18], none⟩,
    ⟨.l 20, .p .mv, [.v 1], some (.l 19, true)⟩,
    ⟨.l 21, .p (.bsl 1 [.m (.i .i64 0)] 2 [0, 1]), [.k (.m (.i .i64 0)), .k (.m (.i .i64 0))], some (.l 19, true)⟩,
    ⟨.l 22, .p (.build [.m (.i .i64 0), .m (.nl 4)] [(0, 1), (1, 1)]), [.k (.m (.i .i64 1)), .l 21], some (.l 19, true)⟩,
    ⟨.l 23, .p (.bsl 1 [.m (.i .i64 0)] 2 [0, 1]), [.k (.m (.i .i64 0)), .k (.m (.i .i64 1))], some (.l 19, true)⟩,
    ⟨.l 24, .p (.build [.m (.i .i64 0), .m (.nl 4)] [(0, 1), (1, 1)]), [.k (.m (.i .i64 1)), .l 23], some (.l 19, true)⟩,
    ⟨.l 25, .l (.bsf 2 [.m (.i .i64 0), .m (.nl 4)] 2 [0, 1]), [.l 22, .l 24], some (.l 19, true)⟩,
    ⟨.l 26, .p (.build [.m (.i .i64 0), .m (.nl 4), .m (.nl 4)] [(0, 1), (1, 1), (2, 1)]), [.k (.m (.i .i64 2)), .l 20, .l 25], some (.l 19, true)⟩,
    ⟨.l 27, .l (.cal 11), [.l 26], some (.l 19, true)⟩,
    ⟨.l 28, .p (.bin .eql), [.l 27, .k (.m (.i .i64 9))], some (.l 19, true)⟩,
    ⟨.l 29, .p .pick, [.l 19, .l 28, .k (.m (.b false))], none⟩,
    ⟨.l 30, .p .mv, [.l 29], none⟩,
    ⟨.l 31, .p .mv, [.v 1], some (.l 30, true)⟩,
    ⟨.l 32, .p (.bsl 1 [.m (.i .i64 0)] 2 [0, 1]), [.k (.m (.i .i64 0)), .k (.m (.i .i64 1))], some (.l 30, true)⟩,
    ⟨.l 33, .p (.build [.m (.i .i64 0), .m (.nl 4)] [(0, 1), (1, 1)]), [.k (.m (.i .i64 1)), .l 32], some (.l 30, true)⟩,
    ⟨.l 34, .l (.bsf 2 [.m (.i .i64 0), .m (.nl 4)] 1 [0]), [.l 33], some (.l 30, true)⟩,
    ⟨.l 35, .p (.build [.m (.i .i64 0), .m (.nl 4), .m (.nl 4)] [(0, 1), (1, 1), (2, 1)]), [.k (.m (.i .i64 2)), .l 31, .l 34], some (.l 30, true)⟩,
    ⟨.l 36, .l (.cal 11), [.l 35], some (.l 30, true)⟩,
    ⟨.l 37, .p (.bin .eql), [.l 36, .k (.m (.i .i64 0))], some (.l 30, true)⟩,
    ⟨.l 38, .p .pick, [.l 30, .l 37, .k (.m (.b false))], none⟩,
    ⟨.l 39, .p .mv, [.l 38], none⟩,
    ⟨.l 40, .p (.build [.m (.i .i64 0), .m (.nl 4), .m (.nl 4)] []), [], some (.l 39, true)⟩,
    ⟨.l 41, .p (.build [.m (.i .i64 0), .m (.nl 4)] []), [], some (.l 39, true)⟩,
    ⟨.l 42, .l (.cal 17), [.l 40, .l 41], some (.l 39, true)⟩,
    ⟨.l 43, .p (.bin .eql), [.l 42, .k (.m (.i .i64 1))], some (.l 39, true)⟩,
    ⟨.l 44, .p .pick, [.l 39, .l 43, .k (.m (.b false))], none⟩,
    ⟨.l 45, .p .mv, [.l 44], none⟩,
    ⟨.l 46, .p (.build [.m (.i .i64 0), .m (.nl 4), .m (.nl 4)] []), [], some (.l 45, true)⟩,
    ⟨.l 47, .p (.build [.m (.nl 4), .m (.nl 4), .m (.i .i64 0), .m (.nl 4)] []), [], some (.l 45, true)⟩,
    ⟨.l 48, .l (.cal 22), [.l 46, .l 47], some (.l 45, true)⟩,
    ⟨.l 49, .p (.bin .eql), [.l 48, .k (.m (.i .i64 1))], some (.l 45, true)⟩,
    ⟨.l 50, .p .pick, [.l 45, .l 49, .k (.m (.b false))], none⟩,
    ⟨.v 0, .p .mv, [.l 50], none⟩])
  .ret))))⟩

/- cellular/audit.Quads -/
def c7_B0 : C :=
  (.seq
  (.reg [⟨.v 33, .p (.bin .lss), [.v 32, .v 31], none⟩])
  (.seq
  (.ite (.v 33)
    .skip
    (.ex 1))
  (.seq
  (.blk 2
  (.seq
  (.reg [⟨.l 34, .p .mv, [.v 32], none⟩,
    ⟨.l 35, .p (.ixa 4), [.v 30, .v 32], none⟩,
    ⟨.l 36, .r (.ld true 4), [.l 35], none⟩,
    ⟨.v 4, .l (.als 49 1 4 [.m (.i .i64 0), .m (.i .i64 0), .m (.i .i64 0), .m (.i .i64 0)]), [], none⟩,
    ⟨.v 3, .p .mv, [.l 34], none⟩,
    ⟨.no, .l (.st 4), [.v 4, .l 36], none⟩])
  (.seq
  (.reg [⟨.l 37, .p (.fad 0), [.v 4], none⟩,
    ⟨.l 38, .r (.slcA 4 1 false false false), [.l 37], none⟩,
    ⟨.l 39, .l (.cal 24), [.l 38], none⟩,
    ⟨.l 40, .p (.bin .lss), [.l 39, .k (.m (.i .i64 0))], none⟩,
    ⟨.l 41, .p .mv, [.l 40], none⟩,
    ⟨.l 42, .p (.fad 0), [.v 4], some (.l 41, false)⟩,
    ⟨.l 43, .r (.slcA 4 1 false false false), [.l 42], some (.l 41, false)⟩,
    ⟨.l 44, .l (.cal 25), [.l 43], some (.l 41, false)⟩,
    ⟨.l 45, .p (.fad 0), [.v 1], some (.l 41, false)⟩,
    ⟨.l 46, .r (.ld false 1), [.l 45], some (.l 41, false)⟩,
    ⟨.l 47, .p .mv, [.v 3], some (.l 41, false)⟩,
    ⟨.l 48, .p (.bin .add), [.l 46, .l 47], some (.l 41, false)⟩,
    ⟨.l 49, .p (.bin .geq), [.l 44, .l 48], some (.l 41, false)⟩,
    ⟨.v 50, .p .pick, [.l 41, .k (.m (.b true)), .l 49], none⟩])
  (.ite (.v 50)
    (.seq
    (.reg [⟨.v 2, .p .mv, [.k (.m (.i .i64 3))], none⟩])
    .ret)
    .skip))))
  (.reg [⟨.l 51, .p (.bin .add), [.v 32, .k (.m (.i .i64 1))], none⟩,
    ⟨.v 32, .p .mv, [.l 51], none⟩]))))
def c7_L0 : C := .loop [0, 2, 3, 4, 12, 15, 24, 33, 50] c7_B0
def c7_B1 : C :=
  (.seq
  (.reg [⟨.v 77, .p (.bin .lss), [.v 76, .k (.m (.i .i64 4))], none⟩])
  (.seq
  (.ite (.v 77)
    .skip
    (.ex 5))
  (.seq
  (.blk 6
  (.seq
  (.reg [⟨.l 78, .p (.ixv 4 1 false), [.v 75, .v 76], none⟩,
    ⟨.v 11, .p .mv, [.l 78], none⟩])
  (.seq
  (.reg [⟨.l 79, .p .mv, [.v 5], none⟩,
    ⟨.l 80, .p .mv, [.v 11], none⟩,
    ⟨.l 81, .p (.ixa 1), [.l 79, .l 80], none⟩,
    ⟨.l 82, .r (.ld false 1), [.l 81], none⟩,
    ⟨.l 83, .p .mv, [.v 9], none⟩,
    ⟨.v 84, .p (.bin .neq), [.l 82, .l 83], none⟩])
  (.ite (.v 84)
    (.seq
    (.reg [⟨.v 2, .p .mv, [.k (.m (.i .i64 4))], none⟩])
    .ret)
    .skip))))
  (.reg [⟨.l 85, .p (.bin .add), [.v 76, .k (.m (.i .i64 1))], none⟩,
    ⟨.v 76, .p .mv, [.l 85], none⟩]))))
def c7_L1 : C := .loop [8, 11, 65, 77, 84] c7_B1
def c7_B2 : C :=
  (.seq
  (.reg [⟨.v 65, .p (.bin .lss), [.v 64, .v 63], none⟩])
  (.seq
  (.ite (.v 65)
    .skip
    (.ex 3))
  (.seq
  (.blk 4
  (.seq
  (.reg [⟨.l 66, .p (.ixa 4), [.v 62, .v 64], none⟩,
    ⟨.l 67, .r (.ld true 4), [.l 66], none⟩,
    ⟨.v 8, .l (.alp 8 [.m (.i .i64 0), .m (.i .i64 0), .m (.i .i64 0), .m (.i .i64 0)]), [], none⟩,
    ⟨.no, .l (.st 4), [.v 8, .l 67], none⟩])
  (.seq
  (.reg [⟨.l 68, .p .mv, [.v 5], none⟩,
    ⟨.l 69, .p (.fad 0), [.v 8], none⟩,
    ⟨.l 70, .p (.ixaA 4 1), [.l 69, .k (.m (.i .i64 0))], none⟩,
    ⟨.l 71, .r (.ld false 1), [.l 70], none⟩,
    ⟨.l 72, .p (.ixa 1), [.l 68, .l 71], none⟩,
    ⟨.l 73, .r (.ld false 1), [.l 72], none⟩,
    ⟨.v 9, .p .mv, [.l 73], none⟩])
  (.seq
  (.seq
  (.reg [⟨.l 74, .p (.fad 0), [.v 8], none⟩,
    ⟨.v 75, .r (.ld true 4), [.l 74], none⟩,
    ⟨.v 76, .p .mv, [.k (.m (.i .i64 0))], none⟩])
  (.blk 5
  c7_L1))
  (.seq
  (.reg [⟨.l 86, .p .mv, [.v 5], none⟩,
    ⟨.l 87, .p .mv, [.v 9], none⟩,
    ⟨.l 88, .p (.bin .add), [.l 87, .k (.m (.i .i64 1))], none⟩,
    ⟨.l 89, .p (.bsl 1 [.m (.i .i64 0)] 1 [0]), [.l 88], none⟩,
    ⟨.l 90, .l (.app 3 1 8), [.l 86, .l 89], none⟩,
    ⟨.v 5, .p .mv, [.l 90], none⟩])
  (.reg [⟨.l 91, .p .mv, [.v 6], none⟩,
    ⟨.l 92, .p .mv, [.v 9], none⟩,
    ⟨.l 93, .p (.bin .add), [.l 92, .k (.m (.i .i64 1))], none⟩,
    ⟨.l 94, .p (.mm true), [.l 91, .l 93], none⟩,
    ⟨.v 6, .p .mv, [.l 94], none⟩]))))))
  (.reg [⟨.l 95, .p (.bin .add), [.v 64, .k (.m (.i .i64 1))], none⟩,
    ⟨.v 64, .p .mv, [.l 95], none⟩]))))
def c7_L2 : C := .loop [1, 9, 30, 31, 32, 33, 75, 76, 77] c7_B2
def c7 : F := ⟨1, [.t 2],
  (.seq
  (.reg [⟨.v 1, .l (.bxp 1 2), [.v 0], none⟩,
    ⟨.v 2, .p .mv, [.k (.m (.i .i64 0))], none⟩])
  (.seq
  (.blk 0
  (.seq
  (.reg [⟨.l 13, .r (.ld true 2), [.v 1], none⟩,
    ⟨.l 14, .l (.cal 23), [.l 13], none⟩,
    ⟨.v 12, .p .mv, [.l 14], none⟩])
  (.ite (.v 12)
    (.seq
    (.reg [⟨.v 2, .p .mv, [.k (.m (.i .i64 0))], none⟩])
    .ret)
    (.seq
    (.reg [⟨.l 16, .p (.fad 0), [.v 1], none⟩,
      ⟨.l 17, .r (.ld false 1), [.l 16], none⟩,
      ⟨.l 18, .p (.bin .lss), [.l 17, .k (.m (.i .i64 2))], none⟩,
      ⟨.l 19, .p .mv, [.l 18], none⟩,
      ⟨.l 20, .p (.fad 0), [.v 1], some (.l 19, false)⟩,
      ⟨.l 21, .r (.ld false 1), [.l 20], some (.l 19, false)⟩,
      ⟨.l 22, .p (.bin .gtr), [.l 21, .k (.m (.i .i64 8))], some (.l 19, false)⟩,
      ⟨.l 23, .p .pick, [.l 19, .k (.m (.b true)), .l 22], none⟩,
      ⟨.v 15, .p .mv, [.l 23], none⟩])
    (.ite (.v 15)
      (.seq
      (.reg [⟨.v 2, .p .mv, [.k (.m (.i .i64 1))], none⟩])
      .ret)
      (.seq
      (.reg [⟨.l 25, .p (.fad 1), [.v 1], none⟩,
        ⟨.l 26, .r (.ld false 1), [.l 25], none⟩,
        ⟨.l 27, .p (.len false), [.l 26], none⟩,
        ⟨.l 28, .p (.bin .gtr), [.l 27, .k (.m (.i .i64 100000))], none⟩,
        ⟨.v 24, .p .mv, [.l 28], none⟩])
      (.ite (.v 24)
        (.seq
        (.reg [⟨.v 2, .p .mv, [.k (.m (.i .i64 2))], none⟩])
        .ret)
        .skip)))))))
  (.seq
  (.seq
  (.reg [⟨.l 29, .p (.fad 1), [.v 1], none⟩,
    ⟨.v 30, .r (.ld false 1), [.l 29], none⟩,
    ⟨.v 31, .p (.len false), [.v 30], none⟩,
    ⟨.v 32, .p .mv, [.k (.m (.i .i64 0))], none⟩])
  (.blk 1
  c7_L0))
  (.seq
  (.reg [⟨.l 52, .p (.fad 0), [.v 1], none⟩,
    ⟨.l 53, .r (.ld false 1), [.l 52], none⟩,
    ⟨.l 54, .p (.fad 0), [.v 1], none⟩,
    ⟨.l 55, .r (.ld false 1), [.l 54], none⟩,
    ⟨.l 56, .p (.fad 1), [.v 1], none⟩,
    ⟨.l 57, .r (.ld false 1), [.l 56], none⟩,
    ⟨.l 58, .p (.len false), [.l 57], none⟩,
    ⟨.l 59, .p (.bin .add), [.l 55, .l 58], none⟩,
    ⟨.l 60, .l (.mks 3 1 [.m (.i .i64 0)] 8), [.l 53, .l 59], none⟩,
    ⟨.v 5, .p .mv, [.l 60], none⟩])
  (.seq
  (.reg [⟨.v 6, .p .mv, [.k (.m (.i .i64 0))], none⟩])
  (.seq
  (.seq
  (.reg [⟨.l 61, .p (.fad 1), [.v 1], none⟩,
    ⟨.v 62, .r (.ld false 1), [.l 61], none⟩,
    ⟨.v 63, .p (.len false), [.v 62], none⟩,
    ⟨.v 64, .p .mv, [.k (.m (.i .i64 0))], none⟩])
  (.blk 3
  c7_L2))
  (.seq
  (.seq
  (.reg [⟨.l 96, .p .mv, [.v 6], none⟩,
    ⟨.v 97, .p (.bin .gtr), [.l 96, .k (.m (.i .i64 256))], none⟩])
  (.ite (.v 97)
    (.seq
    (.reg [⟨.v 2, .p .mv, [.k (.m (.i .i64 5))], none⟩])
    .ret)
    .skip))
  (.seq
  (.reg [⟨.v 2, .p .mv, [.k (.m (.i .i64 6))], none⟩])
  .ret))))))))⟩

/- cellular/cellularref58.Quads -/
def c8_B0 : C :=
  (.seq
  (.seq
  (.reg [⟨.l 31, .p .mv, [.v 4], none⟩,
    ⟨.v 32, .p (.bin .lss), [.l 31, .k (.m (.i .i64 4))], none⟩])
  (.ite (.v 32)
    .skip
    (.ex 2)))
  (.seq
  (.blk 3
  (.seq
  (.reg [⟨.l 35, .p (.fad 1), [.v 1], none⟩,
    ⟨.l 36, .r (.ld false 1), [.l 35], none⟩,
    ⟨.l 37, .p .mv, [.v 3], none⟩,
    ⟨.l 38, .p .mv, [.v 4], none⟩,
    ⟨.l 39, .p (.ixa 4), [.l 36, .l 37], none⟩,
    ⟨.l 40, .p (.fad 0), [.l 39], none⟩,
    ⟨.l 41, .p (.ixaA 4 1), [.l 40, .l 38], none⟩,
    ⟨.l 42, .r (.ld false 1), [.l 41], none⟩,
    ⟨.l 43, .p (.bin .lss), [.l 42, .k (.m (.i .i64 0))], none⟩,
    ⟨.l 44, .p .mv, [.l 43], none⟩,
    ⟨.l 45, .p (.fad 1), [.v 1], some (.l 44, false)⟩,
    ⟨.l 46, .r (.ld false 1), [.l 45], some (.l 44, false)⟩,
    ⟨.l 47, .p .mv, [.v 3], some (.l 44, false)⟩,
    ⟨.l 48, .p .mv, [.v 4], some (.l 44, false)⟩,
    ⟨.l 49, .p (.ixa 4), [.l 46, .l 47], some (.l 44, false)⟩,
    ⟨.l 50, .p (.fad 0), [.l 49], some (.l 44, false)⟩,
    ⟨.l 51, .p (.ixaA 4 1), [.l 50, .l 48], some (.l 44, false)⟩,
    ⟨.l 52, .r (.ld false 1), [.l 51], some (.l 44, false)⟩,
    ⟨.l 53, .p (.fad 0), [.v 1], some (.l 44, false)⟩,
    ⟨.l 54, .r (.ld false 1), [.l 53], some (.l 44, false)⟩,
    ⟨.l 55, .p .mv, [.v 3], some (.l 44, false)⟩,
    ⟨.l 56, .p (.bin .add), [.l 54, .l 55], some (.l 44, false)⟩,
    ⟨.l 57, .p (.bin .geq), [.l 52, .l 56], some (.l 44, false)⟩,
    ⟨.v 58, .p .pick, [.l 44, .k (.m (.b true)), .l 57], none⟩])
  (.ite (.v 58)
    (.seq
    (.reg [⟨.v 2, .p .mv, [.k (.m (.i .i64 3))], none⟩])
    .ret)
    .skip)))
  (.reg [⟨.l 33, .p .mv, [.v 4], none⟩,
    ⟨.l 34, .p (.bin .add), [.l 33, .k (.m (.i .i64 1))], none⟩,
    ⟨.v 4, .p .mv, [.l 34], none⟩])))
def c8_L0 : C := .loop [28, 32, 58] c8_B0
def c8_B1 : C :=
  (.seq
  (.seq
  (.reg [⟨.l 24, .p .mv, [.v 3], none⟩,
    ⟨.l 25, .p (.fad 1), [.v 1], none⟩,
    ⟨.l 26, .r (.ld false 1), [.l 25], none⟩,
    ⟨.l 27, .p (.len false), [.l 26], none⟩,
    ⟨.v 28, .p (.bin .lss), [.l 24, .l 27], none⟩])
  (.ite (.v 28)
    .skip
    (.ex 0)))
  (.seq
  (.blk 1
  (.seq
  (.reg [⟨.v 4, .p .mv, [.k (.m (.i .i64 0))], none⟩])
  (.blk 2
  c8_L0)))
  (.reg [⟨.l 29, .p .mv, [.v 3], none⟩,
    ⟨.l 30, .p (.bin .add), [.l 29, .k (.m (.i .i64 1))], none⟩,
    ⟨.v 3, .p .mv, [.l 30], none⟩])))
def c8_L1 : C := .loop [0, 2, 4, 19, 23, 32] c8_B1
def c8_B2 : C :=
  (.seq
  (.seq
  (.reg [⟨.l 76, .p .mv, [.v 8], none⟩,
    ⟨.v 77, .p (.bin .lss), [.l 76, .k (.m (.i .i64 4))], none⟩])
  (.ite (.v 77)
    .skip
    (.ex 6)))
  (.seq
  (.blk 7
  (.seq
  (.reg [⟨.l 80, .r (.ld true 2), [.v 1], none⟩,
    ⟨.l 81, .p .mv, [.v 5], none⟩,
    ⟨.l 82, .p (.fad 1), [.v 1], none⟩,
    ⟨.l 83, .r (.ld false 1), [.l 82], none⟩,
    ⟨.l 84, .p .mv, [.v 6], none⟩,
    ⟨.l 85, .p .mv, [.v 8], none⟩,
    ⟨.l 86, .p (.ixa 4), [.l 83, .l 84], none⟩,
    ⟨.l 87, .p (.fad 0), [.l 86], none⟩,
    ⟨.l 88, .p (.ixaA 4 1), [.l 87, .l 85], none⟩,
    ⟨.l 89, .r (.ld false 1), [.l 88], none⟩,
    ⟨.l 90, .l (.cal 26), [.l 80, .l 81, .l 89], none⟩,
    ⟨.l 91, .p .mv, [.v 7], none⟩,
    ⟨.v 92, .p (.bin .neq), [.l 90, .l 91], none⟩])
  (.ite (.v 92)
    (.seq
    (.reg [⟨.v 2, .p .mv, [.k (.m (.i .i64 4))], none⟩])
    .ret)
    .skip)))
  (.reg [⟨.l 78, .p .mv, [.v 8], none⟩,
    ⟨.l 79, .p (.bin .add), [.l 78, .k (.m (.i .i64 1))], none⟩,
    ⟨.v 8, .p .mv, [.l 79], none⟩])))
def c8_L2 : C := .loop [63, 77, 92] c8_B2
def c8_B3 : C :=
  (.seq
  (.seq
  (.reg [⟨.l 59, .p .mv, [.v 6], none⟩,
    ⟨.l 60, .p (.fad 1), [.v 1], none⟩,
    ⟨.l 61, .r (.ld false 1), [.l 60], none⟩,
    ⟨.l 62, .p (.len false), [.l 61], none⟩,
    ⟨.v 63, .p (.bin .lss), [.l 59, .l 62], none⟩])
  (.ite (.v 63)
    .skip
    (.ex 4)))
  (.seq
  (.blk 5
  (.seq
  (.reg [⟨.l 66, .r (.ld true 2), [.v 1], none⟩,
    ⟨.l 67, .p .mv, [.v 5], none⟩,
    ⟨.l 68, .p (.fad 1), [.v 1], none⟩,
    ⟨.l 69, .r (.ld false 1), [.l 68], none⟩,
    ⟨.l 70, .p .mv, [.v 6], none⟩,
    ⟨.l 71, .p (.ixa 4), [.l 69, .l 70], none⟩,
    ⟨.l 72, .p (.fad 0), [.l 71], none⟩,
    ⟨.l 73, .p (.ixaA 4 1), [.l 72, .k (.m (.i .i64 0))], none⟩,
    ⟨.l 74, .r (.ld false 1), [.l 73], none⟩,
    ⟨.l 75, .l (.cal 26), [.l 66, .l 67, .l 74], none⟩,
    ⟨.v 7, .p .mv, [.l 75], none⟩])
  (.seq
  (.seq
  (.reg [⟨.v 8, .p .mv, [.k (.m (.i .i64 1))], none⟩])
  (.blk 6
  c8_L2))
  (.reg [⟨.l 93, .p .mv, [.v 5], none⟩,
    ⟨.l 94, .p .mv, [.v 7], none⟩,
    ⟨.l 95, .p (.bin .add), [.l 94, .k (.m (.i .i64 1))], none⟩,
    ⟨.l 96, .p (.bsl 1 [.m (.i .i64 0)] 1 [0]), [.l 95], none⟩,
    ⟨.l 97, .l (.app 3 1 8), [.l 93, .l 96], none⟩,
    ⟨.v 5, .p .mv, [.l 97], none⟩]))))
  (.reg [⟨.l 64, .p .mv, [.v 6], none⟩,
    ⟨.l 65, .p (.bin .add), [.l 64, .k (.m (.i .i64 1))], none⟩,
    ⟨.v 6, .p .mv, [.l 65], none⟩])))
def c8_L3 : C := .loop [3, 7, 8, 28, 77] c8_B3
def c8_B4 : C :=
  (.seq
  (.seq
  (.reg [⟨.l 98, .p .mv, [.v 9], none⟩,
    ⟨.l 99, .p .mv, [.v 5], none⟩,
    ⟨.l 100, .p (.len false), [.l 99], none⟩,
    ⟨.v 101, .p (.bin .lss), [.l 98, .l 100], none⟩])
  (.ite (.v 101)
    .skip
    (.ex 8)))
  (.seq
  (.blk 9
  (.seq
  (.reg [⟨.l 104, .p .mv, [.v 5], none⟩,
    ⟨.l 105, .p .mv, [.v 9], none⟩,
    ⟨.l 106, .p (.ixa 1), [.l 104, .l 105], none⟩,
    ⟨.l 107, .r (.ld false 1), [.l 106], none⟩,
    ⟨.v 108, .p (.bin .gtr), [.l 107, .k (.m (.i .i64 256))], none⟩])
  (.ite (.v 108)
    (.seq
    (.reg [⟨.v 2, .p .mv, [.k (.m (.i .i64 5))], none⟩])
    .ret)
    .skip)))
  (.reg [⟨.l 102, .p .mv, [.v 9], none⟩,
    ⟨.l 103, .p (.bin .add), [.l 102, .k (.m (.i .i64 1))], none⟩,
    ⟨.v 9, .p .mv, [.l 103], none⟩])))
def c8_L4 : C := .loop [6, 63, 101, 108] c8_B4
def c8_B5 : C :=
  (.seq
  (.seq
  (.reg [⟨.l 116, .p .mv, [.v 11], none⟩,
    ⟨.l 117, .p .mv, [.v 10], none⟩,
    ⟨.v 118, .p (.bin .lss), [.l 116, .l 117], none⟩])
  (.ite (.v 118)
    .skip
    (.ex 12)))
  (.seq
  (.blk 13
  (.seq
  (.reg [⟨.l 121, .p (.fad 1), [.v 1], none⟩,
    ⟨.l 122, .r (.ld false 1), [.l 121], none⟩,
    ⟨.l 123, .p .mv, [.v 10], none⟩,
    ⟨.l 124, .p (.ixa 4), [.l 122, .l 123], none⟩,
    ⟨.l 125, .r (.ld true 4), [.l 124], none⟩,
    ⟨.l 126, .p (.fad 1), [.v 1], none⟩,
    ⟨.l 127, .r (.ld false 1), [.l 126], none⟩,
    ⟨.l 128, .p .mv, [.v 11], none⟩,
    ⟨.l 129, .p (.ixa 4), [.l 127, .l 128], none⟩,
    ⟨.l 130, .r (.ld true 4), [.l 129], none⟩,
    ⟨.v 131, .p (.eqs false [1, 1, 1, 1]), [.l 125, .l 130], none⟩])
  (.ite (.v 131)
    (.seq
    (.reg [⟨.v 2, .p .mv, [.k (.m (.i .i64 6))], none⟩])
    .ret)
    .skip)))
  (.reg [⟨.l 119, .p .mv, [.v 11], none⟩,
    ⟨.l 120, .p (.bin .add), [.l 119, .k (.m (.i .i64 1))], none⟩,
    ⟨.v 11, .p .mv, [.l 120], none⟩])))
def c8_L5 : C := .loop [113, 118, 131] c8_B5
def c8_B6 : C :=
  (.seq
  (.seq
  (.reg [⟨.l 109, .p .mv, [.v 10], none⟩,
    ⟨.l 110, .p (.fad 1), [.v 1], none⟩,
    ⟨.l 111, .r (.ld false 1), [.l 110], none⟩,
    ⟨.l 112, .p (.len false), [.l 111], none⟩,
    ⟨.v 113, .p (.bin .lss), [.l 109, .l 112], none⟩])
  (.ite (.v 113)
    .skip
    (.ex 10)))
  (.seq
  (.blk 11
  (.seq
  (.reg [⟨.v 11, .p .mv, [.k (.m (.i .i64 0))], none⟩])
  (.blk 12
  c8_L5)))
  (.reg [⟨.l 114, .p .mv, [.v 10], none⟩,
    ⟨.l 115, .p (.bin .add), [.l 114, .k (.m (.i .i64 1))], none⟩,
    ⟨.v 10, .p .mv, [.l 115], none⟩])))
def c8_L6 : C := .loop [5, 9, 11, 101, 118] c8_B6
def c8 : F := ⟨1, [.t 2],
  (.seq
  (.reg [⟨.v 1, .l (.bxp 1 2), [.v 0], none⟩,
    ⟨.v 2, .p .mv, [.k (.m (.i .i64 0))], none⟩])
  (.seq
  (.seq
  (.reg [⟨.l 12, .p (.fad 0), [.v 1], none⟩,
    ⟨.l 13, .r (.ld false 1), [.l 12], none⟩,
    ⟨.l 14, .p (.bin .lss), [.l 13, .k (.m (.i .i64 2))], none⟩,
    ⟨.l 15, .p .mv, [.l 14], none⟩,
    ⟨.l 16, .p (.fad 0), [.v 1], some (.l 15, false)⟩,
    ⟨.l 17, .r (.ld false 1), [.l 16], some (.l 15, false)⟩,
    ⟨.l 18, .p (.bin .gtr), [.l 17, .k (.m (.i .i64 8))], some (.l 15, false)⟩,
    ⟨.v 19, .p .pick, [.l 15, .k (.m (.b true)), .l 18], none⟩])
  (.ite (.v 19)
    (.seq
    (.reg [⟨.v 2, .p .mv, [.k (.m (.i .i64 1))], none⟩])
    .ret)
    .skip))
  (.seq
  (.seq
  (.reg [⟨.l 20, .p (.fad 1), [.v 1], none⟩,
    ⟨.l 21, .r (.ld false 1), [.l 20], none⟩,
    ⟨.l 22, .p (.len false), [.l 21], none⟩,
    ⟨.v 23, .p (.bin .gtr), [.l 22, .k (.m (.i .i64 100000))], none⟩])
  (.ite (.v 23)
    (.seq
    (.reg [⟨.v 2, .p .mv, [.k (.m (.i .i64 2))], none⟩])
    .ret)
    .skip))
  (.seq
  (.seq
  (.reg [⟨.v 3, .p .mv, [.k (.m (.i .i64 0))], none⟩])
  (.blk 0
  c8_L1))
  (.seq
  (.reg [⟨.v 5, .p .mv, [.k (.m (.nl 4))], none⟩])
  (.seq
  (.seq
  (.reg [⟨.v 6, .p .mv, [.k (.m (.i .i64 0))], none⟩])
  (.blk 4
  c8_L3))
  (.seq
  (.seq
  (.reg [⟨.v 9, .p .mv, [.k (.m (.i .i64 0))], none⟩])
  (.blk 8
  c8_L4))
  (.seq
  (.seq
  (.reg [⟨.v 10, .p .mv, [.k (.m (.i .i64 0))], none⟩])
  (.blk 10
  c8_L6))
  (.seq
  (.reg [⟨.v 2, .p .mv, [.k (.m (.i .i64 0))], none⟩])
  .ret)))))))))⟩

/- cellular/cellularref25.Right -/
def c9_B0 : C :=
  (.seq
  (.seq
  (.reg [⟨.l 24, .p .mv, [.v 4], none⟩,
    ⟨.l 25, .p (.fad 1), [.v 1], none⟩,
    ⟨.l 26, .r (.ld false 1), [.l 25], none⟩,
    ⟨.l 27, .p (.len false), [.l 26], none⟩,
    ⟨.v 28, .p (.bin .lss), [.l 24, .l 27], none⟩])
  (.ite (.v 28)
    .skip
    (.ex 0)))
  (.seq
  (.blk 1
  (.seq
  (.reg [⟨.l 31, .p (.fad 1), [.v 1], none⟩,
    ⟨.l 32, .r (.ld false 1), [.l 31], none⟩,
    ⟨.l 33, .p .mv, [.v 4], none⟩,
    ⟨.l 34, .p (.ixa 4), [.l 32, .l 33], none⟩,
    ⟨.l 35, .p (.fad 0), [.l 34], none⟩,
    ⟨.l 36, .r (.ld true 4), [.l 35], none⟩,
    ⟨.v 5, .l (.alp 5 [.m (.i .i64 0), .m (.i .i64 0), .m (.i .i64 0), .m (.i .i64 0)]), [], none⟩,
    ⟨.no, .l (.st 4), [.v 5, .l 36], none⟩])
  (.seq
  (.reg [⟨.l 37, .r (.ld true 2), [.v 3], none⟩,
    ⟨.l 38, .p (.ixaA 4 1), [.v 5, .k (.m (.i .i64 0))], none⟩,
    ⟨.l 39, .r (.ld false 1), [.l 38], none⟩,
    ⟨.l 40, .l (.cal 27), [.l 37, .l 39], none⟩,
    ⟨.v 6, .p .mv, [.l 40], none⟩])
  (.seq
  (.seq
  (.reg [⟨.l 41, .p .mv, [.v 6], none⟩,
    ⟨.l 42, .p (.bin .lss), [.l 41, .k (.m (.i .i64 0))], none⟩,
    ⟨.l 43, .p .mv, [.l 42], none⟩,
    ⟨.l 44, .p .mv, [.v 6], some (.l 43, false)⟩,
    ⟨.l 45, .p (.bin .geq), [.l 44, .k (.m (.i .i64 256))], some (.l 43, false)⟩,
    ⟨.l 46, .p .pick, [.l 43, .k (.m (.b true)), .l 45], none⟩,
    ⟨.l 47, .p .mv, [.l 46], none⟩,
    ⟨.l 48, .r (.ld true 2), [.v 3], some (.l 47, false)⟩,
    ⟨.l 49, .p (.ixaA 4 1), [.v 5, .k (.m (.i .i64 1))], some (.l 47, false)⟩,
    ⟨.l 50, .r (.ld false 1), [.l 49], some (.l 47, false)⟩,
    ⟨.l 51, .l (.cal 27), [.l 48, .l 50], some (.l 47, false)⟩,
    ⟨.l 52, .p .mv, [.v 6], some (.l 47, false)⟩,
    ⟨.l 53, .p (.bin .neq), [.l 51, .l 52], some (.l 47, false)⟩,
    ⟨.l 54, .p .pick, [.l 47, .k (.m (.b true)), .l 53], none⟩,
    ⟨.l 55, .p .mv, [.l 54], none⟩,
    ⟨.l 56, .r (.ld true 2), [.v 3], some (.l 55, false)⟩,
    ⟨.l 57, .p (.ixaA 4 1), [.v 5, .k (.m (.i .i64 2))], some (.l 55, false)⟩,
    ⟨.l 58, .r (.ld false 1), [.l 57], some (.l 55, false)⟩,
    ⟨.l 59, .l (.cal 27), [.l 56, .l 58], some (.l 55, false)⟩,
    ⟨.l 60, .p .mv, [.v 6], some (.l 55, false)⟩,
    ⟨.l 61, .p (.bin .neq), [.l 59, .l 60], some (.l 55, false)⟩,
    ⟨.l 62, .p .pick, [.l 55, .k (.m (.b true)), .l 61], none⟩,
    ⟨.l 63, .p .mv, [.l 62], none⟩,
    ⟨.l 64, .r (.ld true 2), [.v 3], some (.l 63, false)⟩,
    ⟨.l 65, .p (.ixaA 4 1), [.v 5, .k (.m (.i .i64 3))], some (.l 63, false)⟩,
    ⟨.l 66, .r (.ld false 1), [.l 65], some (.l 63, false)⟩,
    ⟨.l 67, .l (.cal 27), [.l 64, .l 66], some (.l 63, false)⟩,
    ⟨.l 68, .p .mv, [.v 6], some (.l 63, false)⟩,
    ⟨.l 69, .p (.bin .neq), [.l 67, .l 68], some (.l 63, false)⟩,
    ⟨.l 70, .p .pick, [.l 63, .k (.m (.b true)), .l 69], none⟩,
    ⟨.l 71, .p .mv, [.l 70], none⟩,
    ⟨.l 72, .r (.ld true 2), [.v 3], some (.l 71, false)⟩,
    ⟨.l 73, .r (.ld true 4), [.v 5], some (.l 71, false)⟩,
    ⟨.l 74, .l (.cal 28), [.l 72, .l 73], some (.l 71, false)⟩,
    ⟨.l 75, .p (.bin .geq), [.l 74, .k (.m (.i .i64 0))], some (.l 71, false)⟩,
    ⟨.v 76, .p .pick, [.l 71, .k (.m (.b true)), .l 75], none⟩])
  (.ite (.v 76)
    (.seq
    (.reg [⟨.v 2, .p .mv, [.k (.m (.b false))], none⟩])
    .ret)
    .skip))
  (.reg [⟨.l 77, .p (.fad 1), [.v 3], none⟩,
    ⟨.l 78, .r (.ld false 1), [.l 77], none⟩,
    ⟨.l 79, .p (.fad 1), [.v 1], none⟩,
    ⟨.l 80, .r (.ld false 1), [.l 79], none⟩,
    ⟨.l 81, .p .mv, [.v 4], none⟩,
    ⟨.l 82, .p (.ixa 4), [.l 80, .l 81], none⟩,
    ⟨.l 83, .r (.ld true 4), [.l 82], none⟩,
    ⟨.l 84, .p (.bsl 4 [.m (.i .i64 0), .m (.i .i64 0), .m (.i .i64 0), .m (.i .i64 0)] 1 [0]), [.l 83], none⟩,
    ⟨.l 85, .l (.app 49 4 32), [.l 78, .l 84], none⟩,
    ⟨.l 86, .p (.fad 1), [.v 3], none⟩,
    ⟨.no, .l (.st 1), [.l 86, .l 85], none⟩])))))
  (.reg [⟨.l 29, .p .mv, [.v 4], none⟩,
    ⟨.l 30, .p (.bin .add), [.l 29, .k (.m (.i .i64 1))], none⟩,
    ⟨.v 4, .p .mv, [.l 30], none⟩])))
def c9_L0 : C := .loop [0, 2, 5, 6, 20, 28, 76] c9_B0
def c9 : F := ⟨1, [.t 2],
  (.seq
  (.reg [⟨.v 1, .l (.bxp 1 2), [.v 0], none⟩,
    ⟨.v 2, .p .mv, [.k (.m (.b false))], none⟩])
  (.seq
  (.seq
  (.reg [⟨.l 7, .p (.fad 0), [.v 1], none⟩,
    ⟨.l 8, .r (.ld false 1), [.l 7], none⟩,
    ⟨.l 9, .p (.bin .lss), [.l 8, .k (.m (.i .i64 2))], none⟩,
    ⟨.l 10, .p .mv, [.l 9], none⟩,
    ⟨.l 11, .p (.fad 0), [.v 1], some (.l 10, false)⟩,
    ⟨.l 12, .r (.ld false 1), [.l 11], some (.l 10, false)⟩,
    ⟨.l 13, .p (.bin .gtr), [.l 12, .k (.m (.i .i64 8))], some (.l 10, false)⟩,
    ⟨.l 14, .p .pick, [.l 10, .k (.m (.b true)), .l 13], none⟩,
    ⟨.l 15, .p .mv, [.l 14], none⟩,
    ⟨.l 16, .p (.fad 1), [.v 1], some (.l 15, false)⟩,
    ⟨.l 17, .r (.ld false 1), [.l 16], some (.l 15, false)⟩,
    ⟨.l 18, .p (.len false), [.l 17], some (.l 15, false)⟩,
    ⟨.l 19, .p (.bin .gtr), [.l 18, .k (.m (.i .i64 100000))], some (.l 15, false)⟩,
    ⟨.v 20, .p .pick, [.l 15, .k (.m (.b true)), .l 19], none⟩])
  (.ite (.v 20)
    (.seq
    (.reg [⟨.v 2, .p .mv, [.k (.m (.b false))], none⟩])
    .ret)
    .skip))
  (.seq
  (.reg [⟨.v 3, .l (.alp 3 [.m (.i .i64 0), .m (.nl 4)]), [], none⟩])
  (.seq
  (.reg [⟨.l 21, .p (.fad 0), [.v 1], none⟩,
    ⟨.l 22, .r (.ld false 1), [.l 21], none⟩,
    ⟨.l 23, .p (.fad 0), [.v 3], none⟩,
    ⟨.no, .l (.st 1), [.l 23, .l 22], none⟩])
  (.seq
  (.seq
  (.reg [⟨.v 4, .p .mv, [.k (.m (.i .i64 0))], none⟩])
  (.blk 0
  c9_L0))
  (.seq
  (.reg [⟨.v 2, .p .mv, [.k (.m (.b true))], none⟩])
  .ret))))))⟩

/- cellular/audit.Rule -/
def c11 : F := ⟨1, [.t 2],
  (.seq
  (.reg [⟨.v 1, .l (.bxs 31 3 1), [.v 0], none⟩,
    ⟨.v 2, .p .mv, [.k (.m (.i .i64 0))], none⟩])
  (.seq
  (.blk 0
  (.seq
  (.reg [⟨.l 4, .p (.fad 0), [.v 1], none⟩,
    ⟨.l 5, .r (.ld false 1), [.l 4], none⟩,
    ⟨.l 6, .p (.bin .lss), [.l 5, .k (.m (.i .i64 2))], none⟩,
    ⟨.l 7, .p .mv, [.l 6], none⟩,
    ⟨.l 8, .p (.fad 0), [.v 1], some (.l 7, false)⟩,
    ⟨.l 9, .r (.ld false 1), [.l 8], some (.l 7, false)⟩,
    ⟨.l 10, .p (.bin .gtr), [.l 9, .k (.m (.i .i64 8))], some (.l 7, false)⟩,
    ⟨.l 11, .p .pick, [.l 7, .k (.m (.b true)), .l 10], none⟩,
    ⟨.v 3, .p .mv, [.l 11], none⟩])
  (.ite (.v 3)
    (.seq
    (.reg [⟨.v 2, .p .mv, [.k (.m (.i .i64 1))], none⟩])
    .ret)
    (.seq
    (.reg [⟨.l 13, .p (.fad 1), [.v 1], none⟩,
      ⟨.l 14, .r (.ld false 1), [.l 13], none⟩,
      ⟨.l 15, .l (.cal 29), [.l 14], none⟩,
      ⟨.l 16, .p (.un .not), [.l 15], none⟩,
      ⟨.v 12, .p .mv, [.l 16], none⟩])
    (.ite (.v 12)
      (.seq
      (.reg [⟨.v 2, .p .mv, [.k (.m (.i .i64 2))], none⟩])
      .ret)
      (.seq
      (.reg [⟨.l 18, .p (.fad 2), [.v 1], none⟩,
        ⟨.l 19, .r (.ld false 1), [.l 18], none⟩,
        ⟨.l 20, .p (.len false), [.l 19], none⟩,
        ⟨.l 21, .p (.bin .lss), [.l 20, .k (.m (.i .i64 1))], none⟩,
        ⟨.l 22, .p .mv, [.l 21], none⟩,
        ⟨.l 23, .p (.fad 2), [.v 1], some (.l 22, false)⟩,
        ⟨.l 24, .r (.ld false 1), [.l 23], some (.l 22, false)⟩,
        ⟨.l 25, .p (.len false), [.l 24], some (.l 22, false)⟩,
        ⟨.l 26, .p (.bin .gtr), [.l 25, .k (.m (.i .i64 4096))], some (.l 22, false)⟩,
        ⟨.l 27, .p .pick, [.l 22, .k (.m (.b true)), .l 26], none⟩,
        ⟨.v 17, .p .mv, [.l 27], none⟩])
      (.ite (.v 17)
        (.seq
        (.reg [⟨.v 2, .p .mv, [.k (.m (.i .i64 3))], none⟩])
        .ret)
        (.seq
        (.reg [⟨.l 29, .p (.fad 2), [.v 1], none⟩,
          ⟨.l 30, .r (.ld false 1), [.l 29], none⟩,
          ⟨.l 31, .p (.mkf 31), [.v 1], none⟩,
          ⟨.l 32, .l (.cal 30), [.l 30, .l 31], none⟩,
          ⟨.v 28, .p .mv, [.l 32], none⟩])
        (.ite (.v 28)
          (.seq
          (.reg [⟨.v 2, .p .mv, [.k (.m (.i .i64 4))], none⟩])
          .ret)
          (.seq
          (.reg [⟨.l 34, .p (.fad 2), [.v 1], none⟩,
            ⟨.l 35, .r (.ld false 1), [.l 34], none⟩,
            ⟨.l 36, .p (.mkf 32), [.v 1], none⟩,
            ⟨.l 37, .l (.cal 30), [.l 35, .l 36], none⟩,
            ⟨.v 33, .p .mv, [.l 37], none⟩])
          (.ite (.v 33)
            (.seq
            (.reg [⟨.v 2, .p .mv, [.k (.m (.i .i64 5))], none⟩])
            .ret)
            (.seq
            (.reg [⟨.l 39, .r (.ld true 3), [.v 1], none⟩,
              ⟨.l 40, .l (.cal 33), [.l 39], none⟩,
              ⟨.l 41, .p (.un .not), [.l 40], none⟩,
              ⟨.v 38, .p .mv, [.l 41], none⟩])
            (.ite (.v 38)
              (.seq
              (.reg [⟨.v 2, .p .mv, [.k (.m (.i .i64 6))], none⟩])
              .ret)
              (.seq
              (.reg [⟨.l 43, .p (.fad 2), [.v 1], none⟩,
                ⟨.l 44, .r (.ld false 1), [.l 43], none⟩,
                ⟨.l 45, .p (.fad 2), [.v 1], none⟩,
                ⟨.l 46, .r (.ld false 1), [.l 45], none⟩,
                ⟨.l 47, .p (.len false), [.l 46], none⟩,
                ⟨.l 48, .p (.bin .sub), [.l 47, .k (.m (.i .i64 1))], none⟩,
                ⟨.l 49, .p (.ixa 2), [.l 44, .l 48], none⟩,
                ⟨.l 50, .p (.fad 0), [.l 49], none⟩,
                ⟨.l 51, .r (.ld false 1), [.l 50], none⟩,
                ⟨.l 52, .p (.fad 1), [.v 1], none⟩,
                ⟨.l 53, .r (.ld false 1), [.l 52], none⟩,
                ⟨.l 54, .p (.len false), [.l 53], none⟩,
                ⟨.l 55, .p (.bin .neq), [.l 51, .l 54], none⟩,
                ⟨.v 42, .p .mv, [.l 55], none⟩])
              (.ite (.v 42)
                (.seq
                (.reg [⟨.v 2, .p .mv, [.k (.m (.i .i64 7))], none⟩])
                .ret)
                (.seq
                (.reg [⟨.l 57, .r (.ld true 3), [.v 1], none⟩,
                  ⟨.l 58, .l (.cal 34), [.l 57], none⟩,
                  ⟨.v 56, .p .mv, [.l 58], none⟩])
                (.ite (.v 56)
                  (.seq
                  (.reg [⟨.v 2, .p .mv, [.k (.m (.i .i64 8))], none⟩])
                  .ret)
                  (.seq
                  (.reg [⟨.l 60, .r (.ld true 3), [.v 1], none⟩,
                    ⟨.l 61, .l (.cal 35), [.l 60], none⟩,
                    ⟨.l 62, .p (.un .not), [.l 61], none⟩,
                    ⟨.v 59, .p .mv, [.l 62], none⟩])
                  (.ite (.v 59)
                    (.seq
                    (.reg [⟨.v 2, .p .mv, [.k (.m (.i .i64 9))], none⟩])
                    .ret)
                    (.seq
                    (.reg [⟨.l 64, .r (.ld true 3), [.v 1], none⟩,
                      ⟨.l 65, .l (.cal 37), [.l 64], none⟩,
                      ⟨.l 66, .r (.ld true 3), [.v 1], none⟩,
                      ⟨.l 67, .l (.cal 36), [.l 65, .l 66], none⟩,
                      ⟨.l 68, .p (.un .not), [.l 67], none⟩,
                      ⟨.v 63, .p .mv, [.l 68], none⟩])
                    (.ite (.v 63)
                      (.seq
                      (.reg [⟨.v 2, .p .mv, [.k (.m (.i .i64 10))], none⟩])
                      .ret)
                      .skip)))))))))))))))))))))
  (.seq
  (.reg [⟨.v 2, .p .mv, [.k (.m (.i .i64 0))], none⟩])
  .ret)))⟩

/- cellular/audit.Timeline -/
def c17_B0 : C :=
  (.seq
  (.reg [⟨.v 34, .p (.bin .lss), [.v 33, .v 32], none⟩])
  (.seq
  (.ite (.v 34)
    .skip
    (.ex 1))
  (.seq
  (.blk 2
  (.seq
  (.reg [⟨.l 35, .p (.ixa 4), [.v 31, .v 33], none⟩,
    ⟨.l 36, .r (.ld true 4), [.l 35], none⟩,
    ⟨.v 7, .l (.alp 7 [.m (.i .i64 0), .m (.b false), .m (.nl 4), .m (.nl 4)]), [], none⟩,
    ⟨.no, .l (.st 4), [.v 7, .l 36], none⟩])
  (.seq
  (.seq
  (.reg [⟨.l 37, .p (.fad 0), [.v 7], none⟩,
    ⟨.l 38, .r (.ld false 1), [.l 37], none⟩,
    ⟨.l 39, .p .mv, [.v 5], none⟩,
    ⟨.l 40, .p (.bin .leq), [.l 38, .l 39], none⟩,
    ⟨.l 41, .p .mv, [.l 40], none⟩,
    ⟨.l 42, .p (.fad 0), [.v 7], some (.l 41, false)⟩,
    ⟨.l 43, .r (.ld false 1), [.l 42], some (.l 41, false)⟩,
    ⟨.l 44, .p (.bin .gtr), [.l 43, .k (.m (.i .i64 2147483647))], some (.l 41, false)⟩,
    ⟨.v 45, .p .pick, [.l 41, .k (.m (.b true)), .l 44], none⟩])
  (.ite (.v 45)
    (.seq
    (.reg [⟨.v 4, .p .mv, [.k (.m (.i .i64 4))], none⟩])
    .ret)
    .skip))
  (.reg [⟨.l 46, .p (.fad 0), [.v 7], none⟩,
    ⟨.l 47, .r (.ld false 1), [.l 46], none⟩,
    ⟨.v 5, .p .mv, [.l 47], none⟩]))))
  (.reg [⟨.l 48, .p (.bin .add), [.v 33, .k (.m (.i .i64 1))], none⟩,
    ⟨.v 33, .p .mv, [.l 48], none⟩]))))
def c17_L0 : C := .loop [0, 1, 4, 7, 12, 16, 25, 34, 45] c17_B0
def c17_B1 : C :=
  (.seq
  (.reg [⟨.v 53, .p (.bin .lss), [.v 52, .v 51], none⟩])
  (.seq
  (.ite (.v 53)
    .skip
    (.ex 3))
  (.seq
  (.blk 4
  (.seq
  (.reg [⟨.l 54, .p .mv, [.v 52], none⟩,
    ⟨.l 55, .p (.ixa 4), [.v 50, .v 52], none⟩,
    ⟨.l 56, .r (.ld true 4), [.l 55], none⟩,
    ⟨.v 9, .l (.alp 9 [.m (.i .i64 0), .m (.b false), .m (.nl 4), .m (.nl 4)]), [], none⟩,
    ⟨.v 8, .p .mv, [.l 54], none⟩,
    ⟨.no, .l (.st 4), [.v 9, .l 56], none⟩])
  (.seq
  (.reg [⟨.l 57, .p (.fad 1), [.v 9], none⟩,
    ⟨.l 58, .r (.ld false 1), [.l 57], none⟩,
    ⟨.l 59, .p .mv, [.v 8], none⟩,
    ⟨.l 60, .p (.fad 0), [.v 3], none⟩,
    ⟨.l 61, .r (.ld false 1), [.l 60], none⟩,
    ⟨.l 62, .p (.bin .rem), [.l 59, .l 61], none⟩,
    ⟨.l 63, .p (.bin .eql), [.l 62, .k (.m (.i .i64 0))], none⟩,
    ⟨.v 64, .p (.eqb true), [.l 58, .l 63], none⟩])
  (.ite (.v 64)
    (.seq
    (.reg [⟨.v 4, .p .mv, [.k (.m (.i .i64 5))], none⟩])
    .ret)
    .skip))))
  (.reg [⟨.l 65, .p (.bin .add), [.v 52, .k (.m (.i .i64 1))], none⟩,
    ⟨.v 52, .p .mv, [.l 65], none⟩]))))
def c17_L1 : C := .loop [5, 8, 9, 31, 32, 33, 34, 53, 64] c17_B1
def c17 : F := ⟨2, [.t 4],
  (.seq
  (.reg [⟨.v 2, .l (.bxp 2 3), [.v 0], none⟩,
    ⟨.v 3, .l (.bxp 3 2), [.v 1], none⟩,
    ⟨.v 4, .p .mv, [.k (.m (.i .i64 0))], none⟩])
  (.seq
  (.blk 0
  (.seq
  (.reg [⟨.l 13, .r (.ld true 3), [.v 2], none⟩,
    ⟨.l 14, .l (.cal 41), [.l 13], none⟩,
    ⟨.l 15, .p (.un .not), [.l 14], none⟩,
    ⟨.v 12, .p .mv, [.l 15], none⟩])
  (.ite (.v 12)
    (.seq
    (.reg [⟨.v 4, .p .mv, [.k (.m (.i .i64 1))], none⟩])
    .ret)
    (.seq
    (.reg [⟨.l 17, .p (.fad 0), [.v 3], none⟩,
      ⟨.l 18, .r (.ld false 1), [.l 17], none⟩,
      ⟨.l 19, .p (.bin .lss), [.l 18, .k (.m (.i .i64 1))], none⟩,
      ⟨.l 20, .p .mv, [.l 19], none⟩,
      ⟨.l 21, .p (.fad 0), [.v 3], some (.l 20, false)⟩,
      ⟨.l 22, .r (.ld false 1), [.l 21], some (.l 20, false)⟩,
      ⟨.l 23, .p (.bin .gtr), [.l 22, .k (.m (.i .i64 100))], some (.l 20, false)⟩,
      ⟨.l 24, .p .pick, [.l 20, .k (.m (.b true)), .l 23], none⟩,
      ⟨.v 16, .p .mv, [.l 24], none⟩])
    (.ite (.v 16)
      (.seq
      (.reg [⟨.v 4, .p .mv, [.k (.m (.i .i64 2))], none⟩])
      .ret)
      (.seq
      (.reg [⟨.l 26, .p (.fad 1), [.v 3], none⟩,
        ⟨.l 27, .r (.ld false 1), [.l 26], none⟩,
        ⟨.l 28, .p (.len false), [.l 27], none⟩,
        ⟨.l 29, .p (.bin .gtr), [.l 28, .k (.m (.i .i64 1000))], none⟩,
        ⟨.v 25, .p .mv, [.l 29], none⟩])
      (.ite (.v 25)
        (.seq
        (.reg [⟨.v 4, .p .mv, [.k (.m (.i .i64 3))], none⟩])
        .ret)
        .skip)))))))
  (.seq
  (.reg [⟨.v 5, .p .mv, [.k (.m (.i .i64 (-1)))], none⟩])
  (.seq
  (.seq
  (.reg [⟨.l 30, .p (.fad 1), [.v 3], none⟩,
    ⟨.v 31, .r (.ld false 1), [.l 30], none⟩,
    ⟨.v 32, .p (.len false), [.v 31], none⟩,
    ⟨.v 33, .p .mv, [.k (.m (.i .i64 0))], none⟩])
  (.blk 1
  c17_L0))
  (.seq
  (.seq
  (.reg [⟨.l 49, .p (.fad 1), [.v 3], none⟩,
    ⟨.v 50, .r (.ld false 1), [.l 49], none⟩,
    ⟨.v 51, .p (.len false), [.v 50], none⟩,
    ⟨.v 52, .p .mv, [.k (.m (.i .i64 0))], none⟩])
  (.blk 3
  c17_L1))
  (.seq
  (.seq
  (.reg [⟨.l 66, .p (.fad 1), [.v 3], none⟩,
    ⟨.l 67, .r (.ld false 1), [.l 66], none⟩,
    ⟨.v 68, .l (.cal 42), [.l 67, .k (.m (.fn 43 []))], none⟩])
  (.ite (.v 68)
    (.seq
    (.reg [⟨.v 4, .p .mv, [.k (.m (.i .i64 6))], none⟩])
    .ret)
    .skip))
  (.seq
  (.seq
  (.reg [⟨.l 69, .r (.ld true 2), [.v 3], none⟩,
    ⟨.l 70, .l (.cal 45), [.l 69], none⟩,
    ⟨.v 71, .p (.un .not), [.l 70], none⟩])
  (.ite (.v 71)
    (.seq
    (.reg [⟨.v 4, .p .mv, [.k (.m (.i .i64 7))], none⟩])
    .ret)
    .skip))
  (.seq
  (.seq
  (.reg [⟨.l 73, .r (.ld true 3), [.v 2], none⟩,
    ⟨.l 74, .r (.ld true 2), [.v 3], none⟩,
    ⟨.l 75, .l (.cal 46), [.l 73, .l 74], none⟩,
    ⟨.l 72, .p .mv, [.l 75], none⟩,
    ⟨.l 76, .p (.ext 0), [.l 72], none⟩,
    ⟨.l 77, .p (.ext 1), [.l 72], none⟩,
    ⟨.v 10, .p .mv, [.l 76], none⟩,
    ⟨.v 11, .p .mv, [.l 77], none⟩])
  (.seq
  (.reg [⟨.l 78, .p .mv, [.v 10], none⟩,
    ⟨.l 79, .p (.bin .neq), [.l 78, .k (.m (.i .i64 (-1)))], none⟩,
    ⟨.l 80, .p .mv, [.l 79], none⟩,
    ⟨.l 81, .p .mv, [.v 11], some (.l 80, false)⟩,
    ⟨.l 82, .p (.bin .neq), [.l 81, .k (.m (.i .i64 0))], some (.l 80, false)⟩,
    ⟨.v 83, .p .pick, [.l 80, .k (.m (.b true)), .l 82], none⟩])
  (.ite (.v 83)
    (.seq
    (.reg [⟨.v 4, .p .mv, [.k (.m (.i .i64 8))], none⟩])
    .ret)
    .skip)))
  (.seq
  (.reg [⟨.v 4, .p .mv, [.k (.m (.i .i64 0))], none⟩])
  .ret)))))))))⟩

/- cellular/audit.Recipe -/
def c22_B0 : C :=
  (.seq
  (.reg [⟨.v 57, .p (.bin .lss), [.v 56, .v 55], none⟩])
  (.seq
  (.ite (.v 57)
    .skip
    (.ex 1))
  (.seq
  (.blk 2
  (.seq
  (.reg [⟨.l 58, .p (.ixa 5), [.v 54, .v 56], none⟩,
    ⟨.l 59, .r (.ld true 5), [.l 58], none⟩,
    ⟨.v 11, .l (.alp 11 [.m (.i .i64 0), .m (.i .i64 0), .m (.i .i64 0), .m (.i .i64 0), .m (.i .i64 0)]), [], none⟩,
    ⟨.no, .l (.st 5), [.v 11, .l 59], none⟩])
  (.seq
  (.reg [⟨.l 61, .r (.ld true 3), [.v 2], none⟩,
    ⟨.l 62, .p (.fad 0), [.v 3], none⟩,
    ⟨.l 63, .r (.ld false 1), [.l 62], none⟩,
    ⟨.l 64, .r (.ld true 5), [.v 11], none⟩,
    ⟨.l 65, .l (.cal 56), [.l 61, .l 63, .l 64], none⟩,
    ⟨.l 60, .p .mv, [.l 65], none⟩,
    ⟨.l 66, .p (.ext 0), [.l 60], none⟩,
    ⟨.l 67, .p (.ext 1), [.l 60], none⟩,
    ⟨.l 12, .p .mv, [.l 66], none⟩,
    ⟨.v 13, .p .mv, [.l 67], none⟩])
  (.seq
  (.reg [⟨.l 68, .p .mv, [.v 13], none⟩,
    ⟨.v 69, .p (.bin .neq), [.l 68, .k (.m (.i .i64 0))], none⟩])
  (.ite (.v 69)
    (.seq
    (.reg [⟨.v 4, .p .mv, [.k (.m (.i .i64 5))], none⟩])
    .ret)
    .skip)))))
  (.reg [⟨.l 70, .p (.bin .add), [.v 56, .k (.m (.i .i64 1))], none⟩,
    ⟨.v 56, .p .mv, [.l 70], none⟩]))))
def c22_L0 : C := .loop [0, 1, 4, 5, 7, 9, 11, 13, 14, 18, 41, 52, 57, 69] c22_B0
def c22 : F := ⟨2, [.t 4],
  (.seq
  (.reg [⟨.v 2, .l (.bxp 2 3), [.v 0], none⟩,
    ⟨.v 3, .l (.bxp 3 4), [.v 1], none⟩,
    ⟨.v 4, .p .mv, [.k (.m (.i .i64 0))], none⟩])
  (.seq
  (.blk 0
  (.seq
  (.reg [⟨.l 15, .r (.ld true 3), [.v 2], none⟩,
    ⟨.l 16, .l (.cal 41), [.l 15], none⟩,
    ⟨.l 17, .p (.un .not), [.l 16], none⟩,
    ⟨.v 14, .p .mv, [.l 17], none⟩])
  (.ite (.v 14)
    (.seq
    (.reg [⟨.v 4, .p .mv, [.k (.m (.i .i64 1))], none⟩])
    .ret)
    (.seq
    (.reg [⟨.l 19, .p (.fad 0), [.v 3], none⟩,
      ⟨.l 20, .r (.ld false 1), [.l 19], none⟩,
      ⟨.l 21, .p (.len false), [.l 20], none⟩,
      ⟨.l 22, .p (.bin .gtr), [.l 21, .k (.m (.i .i64 8))], none⟩,
      ⟨.l 23, .p .mv, [.l 22], none⟩,
      ⟨.l 24, .p (.fad 1), [.v 3], some (.l 23, false)⟩,
      ⟨.l 25, .r (.ld false 1), [.l 24], some (.l 23, false)⟩,
      ⟨.l 26, .p (.len false), [.l 25], some (.l 23, false)⟩,
      ⟨.l 27, .p (.bin .gtr), [.l 26, .k (.m (.i .i64 16))], some (.l 23, false)⟩,
      ⟨.l 28, .p .pick, [.l 23, .k (.m (.b true)), .l 27], none⟩,
      ⟨.v 18, .p .mv, [.l 28], none⟩])
    (.ite (.v 18)
      (.seq
      (.reg [⟨.v 4, .p .mv, [.k (.m (.i .i64 2))], none⟩])
      .ret)
      .skip)))))
  (.seq
  (.reg [⟨.l 29, .p (.fad 2), [.v 3], none⟩,
    ⟨.l 30, .r (.ld false 1), [.l 29], none⟩,
    ⟨.l 31, .p (.fad 3), [.v 3], none⟩,
    ⟨.l 32, .r (.ld false 1), [.l 31], none⟩,
    ⟨.l 33, .p (.build [.m (.nl 4), .m (.nl 4), .m (.i .i64 0), .m (.nl 4)] [(2, 1), (3, 1)]), [.l 30, .l 32], none⟩,
    ⟨.v 5, .l (.alp 5 [.m (.nl 4), .m (.nl 4), .m (.i .i64 0), .m (.nl 4)]), [], none⟩,
    ⟨.no, .l (.st 4), [.v 5, .l 33], none⟩])
  (.seq
  (.seq
  (.reg [⟨.l 35, .r (.ld true 3), [.v 2], none⟩,
    ⟨.l 36, .r (.ld true 4), [.v 5], none⟩,
    ⟨.l 37, .l (.cal 55), [.l 35, .l 36], none⟩,
    ⟨.l 34, .p .mv, [.l 37], none⟩,
    ⟨.l 38, .p (.ext 0), [.l 34], none⟩,
    ⟨.l 39, .p (.ext 1), [.l 34], none⟩,
    ⟨.l 6, .p .mv, [.l 38], none⟩,
    ⟨.v 7, .p .mv, [.l 39], none⟩])
  (.seq
  (.reg [⟨.l 40, .p .mv, [.v 7], none⟩,
    ⟨.v 41, .p (.bin .neq), [.l 40, .k (.m (.i .i64 0))], none⟩])
  (.ite (.v 41)
    (.seq
    (.reg [⟨.v 4, .p .mv, [.k (.m (.i .i64 3))], none⟩])
    .ret)
    .skip)))
  (.seq
  (.reg [⟨.l 42, .p (.fad 0), [.v 3], none⟩,
    ⟨.l 43, .r (.ld false 1), [.l 42], none⟩,
    ⟨.l 44, .p (.fad 0), [.v 5], none⟩,
    ⟨.no, .l (.st 1), [.l 44, .l 43], none⟩])
  (.seq
  (.seq
  (.reg [⟨.l 46, .r (.ld true 3), [.v 2], none⟩,
    ⟨.l 47, .r (.ld true 4), [.v 5], none⟩,
    ⟨.l 48, .l (.cal 55), [.l 46, .l 47], none⟩,
    ⟨.l 45, .p .mv, [.l 48], none⟩,
    ⟨.l 49, .p (.ext 0), [.l 45], none⟩,
    ⟨.l 50, .p (.ext 1), [.l 45], none⟩,
    ⟨.l 8, .p .mv, [.l 49], none⟩,
    ⟨.v 9, .p .mv, [.l 50], none⟩])
  (.seq
  (.reg [⟨.l 51, .p .mv, [.v 9], none⟩,
    ⟨.v 52, .p (.bin .neq), [.l 51, .k (.m (.i .i64 0))], none⟩])
  (.ite (.v 52)
    (.seq
    (.reg [⟨.v 4, .p .mv, [.k (.m (.i .i64 4))], none⟩])
    .ret)
    .skip)))
  (.seq
  (.seq
  (.reg [⟨.l 53, .p (.fad 1), [.v 3], none⟩,
    ⟨.v 54, .r (.ld false 1), [.l 53], none⟩,
    ⟨.v 55, .p (.len false), [.v 54], none⟩,
    ⟨.v 56, .p .mv, [.k (.m (.i .i64 0))], none⟩])
  (.blk 1
  c22_L0))
  (.seq
  (.seq
  (.reg [⟨.l 71, .r (.ld true 3), [.v 2], none⟩,
    ⟨.l 72, .r (.ld true 4), [.v 3], none⟩,
    ⟨.v 73, .l (.cal 57), [.l 71, .l 72], none⟩])
  (.blk 3
  (.seq
  (.reg [⟨.l 75, .p (.bin .eql), [.v 73, .k (.m (.i .i64 0))], none⟩,
    ⟨.v 74, .p .mv, [.l 75], none⟩])
  (.ite (.v 74)
    (.seq
    (.reg [⟨.v 4, .p .mv, [.k (.m (.i .i64 0))], none⟩])
    .ret)
    (.seq
    (.reg [⟨.l 77, .p (.bin .eql), [.v 73, .k (.m (.i .i64 8))], none⟩,
      ⟨.v 76, .p .mv, [.l 77], none⟩])
    (.ite (.v 76)
      (.seq
      (.reg [⟨.v 4, .p .mv, [.k (.m (.i .i64 6))], none⟩])
      .ret)
      .skip))))))
  (.seq
  (.reg [⟨.v 4, .p .mv, [.k (.m (.i .i64 7))], none⟩])
  .ret)))))))))⟩

/- cellular/quad.Right -/
def c23 : F := ⟨1, [.t 2],
  (.seq
  (.reg [⟨.v 1, .l (.bxp 1 2), [.v 0], none⟩,
    ⟨.v 2, .p .mv, [.k (.m (.b false))], none⟩])
  (.seq
  (.reg [⟨.l 6, .r (.ld true 2), [.v 1], none⟩,
    ⟨.l 7, .l (.cal 58), [.l 6], none⟩,
    ⟨.l 5, .p .mv, [.l 7], none⟩,
    ⟨.l 8, .p (.ext 0), [.l 5], none⟩,
    ⟨.l 9, .p (.ext 1), [.l 5], none⟩,
    ⟨.l 3, .p .mv, [.l 8], none⟩,
    ⟨.v 4, .p .mv, [.l 9], none⟩])
  (.seq
  (.reg [⟨.l 10, .p .mv, [.v 4], none⟩,
    ⟨.l 11, .p (.bin .eql), [.l 10, .k (.m (.i .i64 0))], none⟩,
    ⟨.v 2, .p .mv, [.l 11], none⟩])
  .ret)))⟩

/- slices.Min[[]int,int] -/
def c24_B0 : C :=
  (.seq
  (.seq
  (.reg [⟨.l 12, .p .mv, [.v 4], none⟩,
    ⟨.l 13, .p .mv, [.v 0], none⟩,
    ⟨.l 14, .p (.len false), [.l 13], none⟩,
    ⟨.v 15, .p (.bin .lss), [.l 12, .l 14], none⟩])
  (.ite (.v 15)
    .skip
    (.ex 0)))
  (.seq
  (.blk 1
  (.reg [⟨.l 18, .p .mv, [.v 3], none⟩,
    ⟨.l 19, .p .mv, [.v 0], none⟩,
    ⟨.l 20, .p .mv, [.v 4], none⟩,
    ⟨.l 21, .p (.ixa 1), [.l 19, .l 20], none⟩,
    ⟨.l 22, .r (.ld false 1), [.l 21], none⟩,
    ⟨.l 23, .p (.mm false), [.l 18, .l 22], none⟩,
    ⟨.v 3, .p .mv, [.l 23], none⟩]))
  (.reg [⟨.l 16, .p .mv, [.v 4], none⟩,
    ⟨.l 17, .p (.bin .add), [.l 16, .k (.m (.i .i64 1))], none⟩,
    ⟨.v 4, .p .mv, [.l 17], none⟩])))
def c24_L0 : C := .loop [2, 7, 15] c24_B0
def c24 : F := ⟨1, [.t 2],
  (.seq
  (.reg [⟨.v 2, .p .mv, [.k (.m (.i .i64 0))], none⟩])
  (.seq
  (.seq
  (.reg [⟨.l 5, .p .mv, [.v 0], none⟩,
    ⟨.l 6, .p (.len false), [.l 5], none⟩,
    ⟨.v 7, .p (.bin .lss), [.l 6, .k (.m (.i .i64 1))], none⟩])
  (.ite (.v 7)
    (.reg [⟨.l 8, .p .mv, [], none⟩,
      ⟨.no, .p .mv, [], none⟩])
    .skip))
  (.seq
  (.reg [⟨.l 9, .p .mv, [.v 0], none⟩,
    ⟨.l 10, .p (.ixa 1), [.l 9, .k (.m (.i .i64 0))], none⟩,
    ⟨.l 11, .r (.ld false 1), [.l 10], none⟩,
    ⟨.v 3, .p .mv, [.l 11], none⟩])
  (.seq
  (.seq
  (.reg [⟨.v 4, .p .mv, [.k (.m (.i .i64 1))], none⟩])
  (.blk 0
  c24_L0))
  (.seq
  (.reg [⟨.l 24, .p .mv, [.v 3], none⟩,
    ⟨.v 2, .p .mv, [.l 24], none⟩])
  .ret)))))⟩

/- slices.Max[[]int,int] -/
def c25_B0 : C :=
  (.seq
  (.seq
  (.reg [⟨.l 12, .p .mv, [.v 4], none⟩,
    ⟨.l 13, .p .mv, [.v 0], none⟩,
    ⟨.l 14, .p (.len false), [.l 13], none⟩,
    ⟨.v 15, .p (.bin .lss), [.l 12, .l 14], none⟩])
  (.ite (.v 15)
    .skip
    (.ex 0)))
  (.seq
  (.blk 1
  (.reg [⟨.l 18, .p .mv, [.v 3], none⟩,
    ⟨.l 19, .p .mv, [.v 0], none⟩,
    ⟨.l 20, .p .mv, [.v 4], none⟩,
    ⟨.l 21, .p (.ixa 1), [.l 19, .l 20], none⟩,
    ⟨.l 22, .r (.ld false 1), [.l 21], none⟩,
    ⟨.l 23, .p (.mm true), [.l 18, .l 22], none⟩,
    ⟨.v 3, .p .mv, [.l 23], none⟩]))
  (.reg [⟨.l 16, .p .mv, [.v 4], none⟩,
    ⟨.l 17, .p (.bin .add), [.l 16, .k (.m (.i .i64 1))], none⟩,
    ⟨.v 4, .p .mv, [.l 17], none⟩])))
def c25_L0 : C := .loop [2, 7, 15] c25_B0
def c25 : F := ⟨1, [.t 2],
  (.seq
  (.reg [⟨.v 2, .p .mv, [.k (.m (.i .i64 0))], none⟩])
  (.seq
  (.seq
  (.reg [⟨.l 5, .p .mv, [.v 0], none⟩,
    ⟨.l 6, .p (.len false), [.l 5], none⟩,
    ⟨.v 7, .p (.bin .lss), [.l 6, .k (.m (.i .i64 1))], none⟩])
  (.ite (.v 7)
    (.reg [⟨.l 8, .p .mv, [], none⟩,
      ⟨.no, .p .mv, [], none⟩])
    .skip))
  (.seq
  (.reg [⟨.l 9, .p .mv, [.v 0], none⟩,
    ⟨.l 10, .p (.ixa 1), [.l 9, .k (.m (.i .i64 0))], none⟩,
    ⟨.l 11, .r (.ld false 1), [.l 10], none⟩,
    ⟨.v 3, .p .mv, [.l 11], none⟩])
  (.seq
  (.seq
  (.reg [⟨.v 4, .p .mv, [.k (.m (.i .i64 1))], none⟩])
  (.blk 0
  c25_L0))
  (.seq
  (.reg [⟨.l 24, .p .mv, [.v 3], none⟩,
    ⟨.v 2, .p .mv, [.l 24], none⟩])
  .ret)))))⟩

/- cellular/cellularref58.level -/
def c26 : F := ⟨3, [.t 6],
  (.seq
  (.reg [⟨.v 3, .l (.bxp 3 2), [.v 0], none⟩,
    ⟨.v 6, .p .mv, [.k (.m (.i .i64 0))], none⟩])
  (.seq
  (.seq
  (.reg [⟨.l 7, .p .mv, [.v 2], none⟩,
    ⟨.l 8, .p (.fad 0), [.v 3], none⟩,
    ⟨.l 9, .r (.ld false 1), [.l 8], none⟩,
    ⟨.v 10, .p (.bin .lss), [.l 7, .l 9], none⟩])
  (.ite (.v 10)
    (.seq
    (.reg [⟨.v 6, .p .mv, [.k (.m (.i .i64 0))], none⟩])
    .ret)
    .skip))
  (.seq
  (.reg [⟨.l 11, .p .mv, [.v 1], none⟩,
    ⟨.l 12, .p .mv, [.v 2], none⟩,
    ⟨.l 13, .p (.fad 0), [.v 3], none⟩,
    ⟨.l 14, .r (.ld false 1), [.l 13], none⟩,
    ⟨.l 15, .p (.bin .sub), [.l 12, .l 14], none⟩,
    ⟨.l 16, .p (.ixa 1), [.l 11, .l 15], none⟩,
    ⟨.l 17, .r (.ld false 1), [.l 16], none⟩,
    ⟨.v 6, .p .mv, [.l 17], none⟩])
  .ret)))⟩

/- cellular/cellularref25.level -/
def c27_B0 : C :=
  (.seq
  (.seq
  (.reg [⟨.l 18, .p .mv, [.v 1], none⟩,
    ⟨.l 19, .p (.fad 0), [.v 2], none⟩,
    ⟨.l 20, .r (.ld false 1), [.l 19], none⟩,
    ⟨.v 21, .p (.bin .geq), [.l 18, .l 20], none⟩])
  (.ite (.v 21)
    .skip
    (.ex 0)))
  (.blk 1
  (.seq
  (.reg [⟨.l 22, .p (.fad 1), [.v 2], none⟩,
    ⟨.l 23, .r (.ld false 1), [.l 22], none⟩,
    ⟨.l 24, .p .mv, [.v 1], none⟩,
    ⟨.l 25, .p (.fad 0), [.v 2], none⟩,
    ⟨.l 26, .r (.ld false 1), [.l 25], none⟩,
    ⟨.l 27, .p (.bin .sub), [.l 24, .l 26], none⟩,
    ⟨.l 28, .p (.ixa 4), [.l 23, .l 27], none⟩,
    ⟨.l 29, .p (.fad 0), [.l 28], none⟩,
    ⟨.l 30, .p (.ixaA 4 1), [.l 29, .k (.m (.i .i64 0))], none⟩,
    ⟨.l 31, .r (.ld false 1), [.l 30], none⟩,
    ⟨.v 1, .p .mv, [.l 31], none⟩])
  (.reg [⟨.l 32, .p .mv, [.v 5], none⟩,
    ⟨.l 33, .p (.bin .add), [.l 32, .k (.m (.i .i64 1))], none⟩,
    ⟨.v 5, .p .mv, [.l 33], none⟩]))))
def c27_L0 : C := .loop [0, 4, 17, 21] c27_B0
def c27 : F := ⟨2, [.t 4],
  (.seq
  (.reg [⟨.v 2, .l (.bxp 2 2), [.v 0], none⟩,
    ⟨.v 4, .p .mv, [.k (.m (.i .i64 0))], none⟩])
  (.seq
  (.seq
  (.reg [⟨.l 6, .p .mv, [.v 1], none⟩,
    ⟨.l 7, .p (.bin .lss), [.l 6, .k (.m (.i .i64 0))], none⟩,
    ⟨.l 8, .p .mv, [.l 7], none⟩,
    ⟨.l 9, .p .mv, [.v 1], some (.l 8, false)⟩,
    ⟨.l 10, .p (.fad 0), [.v 2], some (.l 8, false)⟩,
    ⟨.l 11, .r (.ld false 1), [.l 10], some (.l 8, false)⟩,
    ⟨.l 12, .p (.fad 1), [.v 2], some (.l 8, false)⟩,
    ⟨.l 13, .r (.ld false 1), [.l 12], some (.l 8, false)⟩,
    ⟨.l 14, .p (.len false), [.l 13], some (.l 8, false)⟩,
    ⟨.l 15, .p (.bin .add), [.l 11, .l 14], some (.l 8, false)⟩,
    ⟨.l 16, .p (.bin .geq), [.l 9, .l 15], some (.l 8, false)⟩,
    ⟨.v 17, .p .pick, [.l 8, .k (.m (.b true)), .l 16], none⟩])
  (.ite (.v 17)
    (.seq
    (.reg [⟨.v 4, .p .mv, [.k (.m (.i .i64 (-1)))], none⟩])
    .ret)
    .skip))
  (.seq
  (.reg [⟨.v 5, .p .mv, [.k (.m (.i .i64 0))], none⟩])
  (.seq
  (.blk 0
  c27_L0)
  (.seq
  (.reg [⟨.l 34, .p .mv, [.v 5], none⟩,
    ⟨.v 4, .p .mv, [.l 34], none⟩])
  .ret)))))⟩

/- cellular/cellularref25.find -/
def c28_B0 : C :=
  (.seq
  (.seq
  (.reg [⟨.l 6, .p .mv, [.v 5], none⟩,
    ⟨.l 7, .p (.fad 1), [.v 2], none⟩,
    ⟨.l 8, .r (.ld false 1), [.l 7], none⟩,
    ⟨.l 9, .p (.len false), [.l 8], none⟩,
    ⟨.v 10, .p (.bin .lss), [.l 6, .l 9], none⟩])
  (.ite (.v 10)
    .skip
    (.ex 0)))
  (.seq
  (.blk 1
  (.seq
  (.reg [⟨.l 13, .p (.fad 1), [.v 2], none⟩,
    ⟨.l 14, .r (.ld false 1), [.l 13], none⟩,
    ⟨.l 15, .p .mv, [.v 5], none⟩,
    ⟨.l 16, .p (.ixa 4), [.l 14, .l 15], none⟩,
    ⟨.l 17, .p (.fad 0), [.l 16], none⟩,
    ⟨.l 18, .r (.ld true 4), [.l 17], none⟩,
    ⟨.l 19, .r (.ld true 4), [.v 3], none⟩,
    ⟨.v 20, .p (.eqs false [1, 1, 1, 1]), [.l 18, .l 19], none⟩])
  (.ite (.v 20)
    (.seq
    (.reg [⟨.l 21, .p .mv, [.v 5], none⟩,
      ⟨.v 4, .p .mv, [.l 21], none⟩])
    .ret)
    .skip)))
  (.reg [⟨.l 11, .p .mv, [.v 5], none⟩,
    ⟨.l 12, .p (.bin .add), [.l 11, .k (.m (.i .i64 1))], none⟩,
    ⟨.v 5, .p .mv, [.l 12], none⟩])))
def c28_L0 : C := .loop [0, 1, 4, 10, 20] c28_B0
def c28 : F := ⟨2, [.t 4],
  (.seq
  (.reg [⟨.v 2, .l (.bxp 2 2), [.v 0], none⟩,
    ⟨.v 3, .l (.bxp 3 4), [.v 1], none⟩,
    ⟨.v 4, .p .mv, [.k (.m (.i .i64 0))], none⟩])
  (.seq
  (.seq
  (.reg [⟨.v 5, .p .mv, [.k (.m (.i .i64 0))], none⟩])
  (.blk 0
  c28_L0))
  (.seq
  (.reg [⟨.v 4, .p .mv, [.k (.m (.i .i64 (-1)))], none⟩])
  .ret)))⟩

/- cellular/hood.Right -/
def c29_B0 : C :=
  (.seq
  (.reg [⟨.v 16, .p (.bin .lss), [.v 15, .v 14], none⟩])
  (.seq
  (.ite (.v 16)
    .skip
    (.ex 0))
  (.seq
  (.blk 1
  (.seq
  (.reg [⟨.l 17, .p .mv, [.v 15], none⟩,
    ⟨.l 18, .p (.ixa 2), [.v 13, .v 15], none⟩,
    ⟨.l 19, .r (.ld true 2), [.l 18], none⟩,
    ⟨.v 4, .l (.alp 4 [.m (.i .i64 0), .m (.i .i64 0)]), [], none⟩,
    ⟨.v 3, .p .mv, [.l 17], none⟩,
    ⟨.no, .l (.st 2), [.v 4, .l 19], none⟩])
  (.seq
  (.reg [⟨.l 20, .p (.fad 0), [.v 4], none⟩,
    ⟨.l 21, .r (.ld false 1), [.l 20], none⟩,
    ⟨.l 22, .p (.bin .lss), [.l 21, .k (.m (.i .i64 (-2)))], none⟩,
    ⟨.l 23, .p .mv, [.l 22], none⟩,
    ⟨.l 24, .p (.fad 0), [.v 4], some (.l 23, false)⟩,
    ⟨.l 25, .r (.ld false 1), [.l 24], some (.l 23, false)⟩,
    ⟨.l 26, .p (.bin .gtr), [.l 25, .k (.m (.i .i64 2))], some (.l 23, false)⟩,
    ⟨.l 27, .p .pick, [.l 23, .k (.m (.b true)), .l 26], none⟩,
    ⟨.l 28, .p .mv, [.l 27], none⟩,
    ⟨.l 29, .p (.fad 1), [.v 4], some (.l 28, false)⟩,
    ⟨.l 30, .r (.ld false 1), [.l 29], some (.l 28, false)⟩,
    ⟨.l 31, .p (.bin .lss), [.l 30, .k (.m (.i .i64 (-2)))], some (.l 28, false)⟩,
    ⟨.l 32, .p .pick, [.l 28, .k (.m (.b true)), .l 31], none⟩,
    ⟨.l 33, .p .mv, [.l 32], none⟩,
    ⟨.l 34, .p (.fad 1), [.v 4], some (.l 33, false)⟩,
    ⟨.l 35, .r (.ld false 1), [.l 34], some (.l 33, false)⟩,
    ⟨.l 36, .p (.bin .gtr), [.l 35, .k (.m (.i .i64 2))], some (.l 33, false)⟩,
    ⟨.l 37, .p .pick, [.l 33, .k (.m (.b true)), .l 36], none⟩,
    ⟨.l 38, .p .mv, [.l 37], none⟩,
    ⟨.l 39, .p .mv, [.v 3], some (.l 38, false)⟩,
    ⟨.l 40, .p (.bin .gtr), [.l 39, .k (.m (.i .i64 0))], some (.l 38, false)⟩,
    ⟨.l 41, .p .mv, [.l 40], some (.l 38, false)⟩,
    ⟨.l 42, .p .mv, [.v 0], some (.l 41, true)⟩,
    ⟨.l 43, .p .mv, [.v 3], some (.l 41, true)⟩,
    ⟨.l 44, .p (.bin .sub), [.l 43, .k (.m (.i .i64 1))], some (.l 41, true)⟩,
    ⟨.l 45, .p (.ixa 2), [.l 42, .l 44], some (.l 41, true)⟩,
    ⟨.l 46, .r (.ld true 2), [.l 45], some (.l 41, true)⟩,
    ⟨.l 47, .r (.ld true 2), [.v 4], some (.l 41, true)⟩,
    ⟨.l 48, .l (.cal 59), [.l 46, .l 47], some (.l 41, true)⟩,
    ⟨.l 49, .p (.bin .geq), [.l 48, .k (.m (.i .i64 0))], some (.l 41, true)⟩,
    ⟨.l 50, .p .pick, [.l 41, .l 49, .k (.m (.b false))], some (.l 38, false)⟩,
    ⟨.v 51, .p .pick, [.l 38, .k (.m (.b true)), .l 50], none⟩])
  (.ite (.v 51)
    (.seq
    (.reg [⟨.v 2, .p .mv, [.k (.m (.b false))], none⟩])
    .ret)
    .skip))))
  (.reg [⟨.l 52, .p (.bin .add), [.v 15, .k (.m (.i .i64 1))], none⟩,
    ⟨.v 15, .p .mv, [.l 52], none⟩]))))
def c29_L0 : C := .loop [2, 3, 4, 12, 16, 51] c29_B0
def c29 : F := ⟨1, [.t 2],
  (.seq
  (.reg [⟨.v 2, .p .mv, [.k (.m (.b false))], none⟩])
  (.seq
  (.seq
  (.reg [⟨.l 5, .p .mv, [.v 0], none⟩,
    ⟨.l 6, .p (.len false), [.l 5], none⟩,
    ⟨.l 7, .p (.bin .lss), [.l 6, .k (.m (.i .i64 1))], none⟩,
    ⟨.l 8, .p .mv, [.l 7], none⟩,
    ⟨.l 9, .p .mv, [.v 0], some (.l 8, false)⟩,
    ⟨.l 10, .p (.len false), [.l 9], some (.l 8, false)⟩,
    ⟨.l 11, .p (.bin .gtr), [.l 10, .k (.m (.i .i64 25))], some (.l 8, false)⟩,
    ⟨.v 12, .p .pick, [.l 8, .k (.m (.b true)), .l 11], none⟩])
  (.ite (.v 12)
    (.seq
    (.reg [⟨.v 2, .p .mv, [.k (.m (.b false))], none⟩])
    .ret)
    .skip))
  (.seq
  (.seq
  (.reg [⟨.v 13, .p .mv, [.v 0], none⟩,
    ⟨.v 14, .p (.len false), [.v 13], none⟩,
    ⟨.v 15, .p .mv, [.k (.m (.i .i64 0))], none⟩])
  (.blk 0
  c29_L0))
  (.seq
  (.reg [⟨.v 2, .p .mv, [.k (.m (.b true))], none⟩])
  .ret))))⟩

/- slices.ContainsFunc[[]cellular/api.Node,cellular/api.Node] -/
def c30 : F := ⟨2, [.t 4],
  (.seq
  (.reg [⟨.v 4, .p .mv, [.k (.m (.b false))], none⟩])
  (.seq
  (.reg [⟨.l 5, .p .mv, [.v 0], none⟩,
    ⟨.l 6, .p .mv, [.v 1], none⟩,
    ⟨.l 7, .l (.cal 60), [.l 5, .l 6], none⟩,
    ⟨.l 8, .p (.bin .geq), [.l 7, .k (.m (.i .i64 0))], none⟩,
    ⟨.v 4, .p .mv, [.l 8], none⟩])
  .ret))⟩

/- cellular/audit.Rule$1 -/
def c31 : F := ⟨2, [.t 3],
  (.seq
  (.reg [⟨.v 2, .l (.bxp 2 2), [.v 0], none⟩,
    ⟨.v 3, .p .mv, [.k (.m (.b false))], none⟩])
  (.seq
  (.reg [⟨.l 4, .p (.fad 0), [.v 2], none⟩,
    ⟨.l 5, .r (.ld false 1), [.l 4], none⟩,
    ⟨.l 6, .p (.bin .lss), [.l 5, .k (.m (.i .i64 1))], none⟩,
    ⟨.l 7, .p .mv, [.l 6], none⟩,
    ⟨.l 8, .p (.fad 0), [.v 2], some (.l 7, false)⟩,
    ⟨.l 9, .r (.ld false 1), [.l 8], some (.l 7, false)⟩,
    ⟨.l 10, .p (.fad 1), [.v 1], some (.l 7, false)⟩,
    ⟨.l 11, .r (.ld false 1), [.l 10], some (.l 7, false)⟩,
    ⟨.l 12, .p (.len false), [.l 11], some (.l 7, false)⟩,
    ⟨.l 13, .p (.bin .gtr), [.l 9, .l 12], some (.l 7, false)⟩,
    ⟨.l 14, .p .pick, [.l 7, .k (.m (.b true)), .l 13], none⟩,
    ⟨.v 3, .p .mv, [.l 14], none⟩])
  .ret))⟩

/- cellular/audit.Rule$2 -/
def c32 : F := ⟨2, [.t 3],
  (.seq
  (.reg [⟨.v 2, .l (.bxp 2 2), [.v 0], none⟩,
    ⟨.v 3, .p .mv, [.k (.m (.b false))], none⟩])
  (.seq
  (.reg [⟨.l 4, .p (.fad 1), [.v 2], none⟩,
    ⟨.l 5, .r (.ld false 1), [.l 4], none⟩,
    ⟨.l 6, .p (.len false), [.l 5], none⟩,
    ⟨.l 7, .p (.fad 0), [.v 1], none⟩,
    ⟨.l 8, .r (.ld false 1), [.l 7], none⟩,
    ⟨.l 9, .p (.bin .neq), [.l 6, .l 8], none⟩,
    ⟨.v 3, .p .mv, [.l 9], none⟩])
  .ret))⟩

/- cellular/audit.indices -/
def c33_B0 : C :=
  (.seq
  (.reg [⟨.v 19, .p (.bin .lss), [.v 18, .v 17], none⟩])
  (.seq
  (.ite (.v 19)
    .skip
    (.ex 2))
  (.seq
  (.blk 3
  (.seq
  (.reg [⟨.l 20, .p (.ixa 1), [.v 16, .v 18], none⟩,
    ⟨.l 21, .r (.ld false 1), [.l 20], none⟩,
    ⟨.v 6, .p .mv, [.l 21], none⟩])
  (.blk 4
  (.seq
  (.reg [⟨.l 23, .p .mv, [.v 6], none⟩,
    ⟨.l 24, .p (.bin .lss), [.l 23, .k (.m (.i .i64 0))], none⟩,
    ⟨.v 22, .p .mv, [.l 24], none⟩])
  (.ite (.v 22)
    (.seq
    (.reg [⟨.v 2, .p .mv, [.k (.m (.b false))], none⟩])
    .ret)
    (.seq
    (.reg [⟨.l 26, .p (.fad 0), [.v 4], none⟩,
      ⟨.l 27, .r (.ld false 1), [.l 26], none⟩,
      ⟨.l 28, .p (.bin .eql), [.l 27, .k (.m (.i .i64 1))], none⟩,
      ⟨.l 29, .p .mv, [.l 28], none⟩,
      ⟨.l 30, .p .mv, [.v 6], some (.l 29, true)⟩,
      ⟨.l 31, .p (.fad 0), [.v 1], some (.l 29, true)⟩,
      ⟨.l 32, .r (.ld false 1), [.l 31], some (.l 29, true)⟩,
      ⟨.l 33, .p (.bin .geq), [.l 30, .l 32], some (.l 29, true)⟩,
      ⟨.l 34, .p .pick, [.l 29, .l 33, .k (.m (.b false))], none⟩,
      ⟨.v 25, .p .mv, [.l 34], none⟩])
    (.ite (.v 25)
      (.seq
      (.reg [⟨.v 2, .p .mv, [.k (.m (.b false))], none⟩])
      .ret)
      (.seq
      (.reg [⟨.l 36, .p (.fad 0), [.v 4], none⟩,
        ⟨.l 37, .r (.ld false 1), [.l 36], none⟩,
        ⟨.l 38, .p (.bin .gtr), [.l 37, .k (.m (.i .i64 1))], none⟩,
        ⟨.l 39, .p .mv, [.l 38], none⟩,
        ⟨.l 40, .p .mv, [.v 6], some (.l 39, true)⟩,
        ⟨.l 41, .p .mv, [.v 3], some (.l 39, true)⟩,
        ⟨.l 42, .p (.bin .geq), [.l 40, .l 41], some (.l 39, true)⟩,
        ⟨.l 43, .p .mv, [.l 42], some (.l 39, true)⟩,
        ⟨.l 44, .p (.fad 2), [.v 1], some (.l 43, false)⟩,
        ⟨.l 45, .r (.ld false 1), [.l 44], some (.l 43, false)⟩,
        ⟨.l 46, .p .mv, [.v 6], some (.l 43, false)⟩,
        ⟨.l 47, .p (.ixa 2), [.l 45, .l 46], some (.l 43, false)⟩,
        ⟨.l 48, .p (.fad 0), [.l 47], some (.l 43, false)⟩,
        ⟨.l 49, .r (.ld false 1), [.l 48], some (.l 43, false)⟩,
        ⟨.l 50, .p (.fad 0), [.v 4], some (.l 43, false)⟩,
        ⟨.l 51, .r (.ld false 1), [.l 50], some (.l 43, false)⟩,
        ⟨.l 52, .p (.bin .sub), [.l 51, .k (.m (.i .i64 1))], some (.l 43, false)⟩,
        ⟨.l 53, .p (.bin .neq), [.l 49, .l 52], some (.l 43, false)⟩,
        ⟨.l 54, .p .pick, [.l 43, .k (.m (.b true)), .l 53], some (.l 39, true)⟩,
        ⟨.l 55, .p .pick, [.l 39, .l 54, .k (.m (.b false))], none⟩,
        ⟨.v 35, .p .mv, [.l 55], none⟩])
      (.ite (.v 35)
        (.seq
        (.reg [⟨.v 2, .p .mv, [.k (.m (.b false))], none⟩])
        .ret)
        .skip)))))))))
  (.reg [⟨.l 56, .p (.bin .add), [.v 18, .k (.m (.i .i64 1))], none⟩,
    ⟨.v 18, .p .mv, [.l 56], none⟩]))))
def c33_L0 : C := .loop [6, 11, 19, 22, 25, 35] c33_B0
def c33_B1 : C :=
  (.seq
  (.reg [⟨.v 11, .p (.bin .lss), [.v 10, .v 9], none⟩])
  (.seq
  (.ite (.v 11)
    .skip
    (.ex 0))
  (.seq
  (.blk 1
  (.seq
  (.reg [⟨.l 12, .p .mv, [.v 10], none⟩,
    ⟨.l 13, .p (.ixa 2), [.v 8, .v 10], none⟩,
    ⟨.l 14, .r (.ld true 2), [.l 13], none⟩,
    ⟨.v 4, .l (.alp 4 [.m (.i .i64 0), .m (.nl 4)]), [], none⟩,
    ⟨.v 3, .p .mv, [.l 12], none⟩,
    ⟨.no, .l (.st 2), [.v 4, .l 14], none⟩])
  (.seq
  (.reg [⟨.l 15, .p (.fad 1), [.v 4], none⟩,
    ⟨.v 16, .r (.ld false 1), [.l 15], none⟩,
    ⟨.v 17, .p (.len false), [.v 16], none⟩,
    ⟨.v 18, .p .mv, [.k (.m (.i .i64 0))], none⟩])
  (.blk 2
  c33_L0))))
  (.reg [⟨.l 57, .p (.bin .add), [.v 10, .k (.m (.i .i64 1))], none⟩,
    ⟨.v 10, .p .mv, [.l 57], none⟩]))))
def c33_L1 : C := .loop [0, 2, 3, 4, 16, 17, 18, 19] c33_B1
def c33 : F := ⟨1, [.t 2],
  (.seq
  (.reg [⟨.v 1, .l (.bxp 1 3), [.v 0], none⟩,
    ⟨.v 2, .p .mv, [.k (.m (.b false))], none⟩])
  (.seq
  (.seq
  (.reg [⟨.l 7, .p (.fad 2), [.v 1], none⟩,
    ⟨.v 8, .r (.ld false 1), [.l 7], none⟩,
    ⟨.v 9, .p (.len false), [.v 8], none⟩,
    ⟨.v 10, .p .mv, [.k (.m (.i .i64 0))], none⟩])
  (.blk 0
  c33_L1))
  (.seq
  (.reg [⟨.v 2, .p .mv, [.k (.m (.b true))], none⟩])
  .ret)))⟩

/- cellular/audit.twice -/
def c34_B0 : C :=
  (.seq
  (.reg [⟨.v 12, .p (.bin .lss), [.v 11, .v 10], none⟩])
  (.seq
  (.ite (.v 12)
    .skip
    (.ex 0))
  (.seq
  (.blk 1
  (.seq
  (.reg [⟨.l 13, .p (.ixa 2), [.v 9, .v 11], none⟩,
    ⟨.l 14, .r (.ld true 2), [.l 13], none⟩,
    ⟨.v 5, .l (.alp 5 [.m (.i .i64 0), .m (.nl 4)]), [], none⟩,
    ⟨.no, .l (.st 2), [.v 5, .l 14], none⟩])
  (.seq
  (.reg [⟨.l 15, .p (.fad 0), [.v 5], none⟩,
    ⟨.l 16, .r (.ld false 1), [.l 15], none⟩,
    ⟨.l 17, .p (.build [.m (.i .i64 0), .m (.i .i64 0), .m (.i .i64 0), .m (.i .i64 0), .m (.i .i64 0), .m (.i .i64 0), .m (.i .i64 0), .m (.i .i64 0), .m (.i .i64 0)] [(0, 1)]), [.l 16], none⟩,
    ⟨.v 6, .l (.als 99 1 9 [.m (.i .i64 0), .m (.i .i64 0), .m (.i .i64 0), .m (.i .i64 0), .m (.i .i64 0), .m (.i .i64 0), .m (.i .i64 0), .m (.i .i64 0), .m (.i .i64 0)]), [], none⟩,
    ⟨.no, .l (.st 9), [.v 6, .l 17], none⟩])
  (.seq
  (.reg [⟨.l 18, .p (.fad 1), [.v 6], none⟩,
    ⟨.l 19, .r (.slcA 8 1 false false false), [.l 18], none⟩,
    ⟨.l 20, .p (.fad 1), [.v 5], none⟩,
    ⟨.l 21, .r (.ld false 1), [.l 20], none⟩,
    ⟨.l 22, .l (.cpy 1), [.l 19, .l 21], none⟩])
  (.seq
  (.seq
  (.reg [⟨.l 23, .p .mv, [.v 3], none⟩,
    ⟨.l 24, .r (.ld true 9), [.v 6], none⟩,
    ⟨.v 25, .r (.lkp ⟨true, [1, 1, 1, 1, 1, 1, 1, 1, 1]⟩ [.m (.b false)] false false), [.l 23, .l 24], none⟩])
  (.ite (.v 25)
    (.seq
    (.reg [⟨.v 2, .p .mv, [.k (.m (.b true))], none⟩])
    .ret)
    .skip))
  (.reg [⟨.l 26, .p .mv, [.v 3], none⟩,
    ⟨.l 27, .r (.ld true 9), [.v 6], none⟩,
    ⟨.no, .l (.mup ⟨true, [1, 1, 1, 1, 1, 1, 1, 1, 1]⟩), [.l 26, .l 27, .k (.m (.b true))], none⟩]))))))
  (.reg [⟨.l 28, .p (.bin .add), [.v 11, .k (.m (.i .i64 1))], none⟩,
    ⟨.v 11, .p .mv, [.l 28], none⟩]))))
def c34_L0 : C := .loop [0, 1, 2, 5, 6, 12, 25] c34_B0
def c34 : F := ⟨1, [.t 2],
  (.seq
  (.reg [⟨.v 1, .l (.bxp 1 3), [.v 0], none⟩,
    ⟨.v 2, .p .mv, [.k (.m (.b false))], none⟩])
  (.seq
  (.reg [⟨.l 7, .l .mkm, [], none⟩,
    ⟨.v 3, .p .mv, [.l 7], none⟩])
  (.seq
  (.seq
  (.reg [⟨.l 8, .p (.fad 2), [.v 1], none⟩,
    ⟨.v 9, .r (.ld false 1), [.l 8], none⟩,
    ⟨.v 10, .p (.len false), [.v 9], none⟩,
    ⟨.v 11, .p .mv, [.k (.m (.i .i64 0))], none⟩])
  (.blk 0
  c34_L0))
  (.seq
  (.reg [⟨.v 2, .p .mv, [.k (.m (.b false))], none⟩])
  .ret))))⟩

/- cellular/audit.needed -/
def c35_B0 : C :=
  (.seq
  (.reg [⟨.v 43, .p (.bin .lss), [.v 42, .v 41], none⟩])
  (.seq
  (.ite (.v 43)
    .skip
    (.ex 2))
  (.seq
  (.blk 3
  (.seq
  (.reg [⟨.l 44, .p (.ixa 1), [.v 40, .v 42], none⟩,
    ⟨.l 45, .r (.ld false 1), [.l 44], none⟩,
    ⟨.v 6, .p .mv, [.l 45], none⟩])
  (.reg [⟨.l 46, .p .mv, [.v 3], none⟩,
    ⟨.l 47, .p .mv, [.v 6], none⟩,
    ⟨.l 48, .p (.ixa 1), [.l 46, .l 47], none⟩,
    ⟨.no, .l (.st 1), [.l 48, .k (.m (.b true))], none⟩])))
  (.reg [⟨.l 49, .p (.bin .add), [.v 42, .k (.m (.i .i64 1))], none⟩,
    ⟨.v 42, .p .mv, [.l 49], none⟩]))))
def c35_L0 : C := .loop [6, 20, 27, 34, 43] c35_B0
def c35_B1 : C :=
  (.seq
  (.seq
  (.reg [⟨.l 19, .p .mv, [.v 4], none⟩,
    ⟨.v 20, .p (.bin .geq), [.l 19, .k (.m (.i .i64 0))], none⟩])
  (.ite (.v 20)
    .skip
    (.ex 0)))
  (.seq
  (.blk 1
  (.seq
  (.seq
  (.reg [⟨.l 23, .p .mv, [.v 3], none⟩,
    ⟨.l 24, .p .mv, [.v 4], none⟩,
    ⟨.l 25, .p (.ixa 1), [.l 23, .l 24], none⟩,
    ⟨.l 26, .r (.ld false 1), [.l 25], none⟩,
    ⟨.v 27, .p (.un .not), [.l 26], none⟩])
  (.ite (.v 27)
    (.seq
    (.reg [⟨.v 2, .p .mv, [.k (.m (.b false))], none⟩])
    .ret)
    .skip))
  (.seq
  (.reg [⟨.l 28, .p (.fad 2), [.v 1], none⟩,
    ⟨.l 29, .r (.ld false 1), [.l 28], none⟩,
    ⟨.l 30, .p .mv, [.v 4], none⟩,
    ⟨.l 31, .p (.ixa 2), [.l 29, .l 30], none⟩,
    ⟨.l 32, .p (.fad 0), [.l 31], none⟩,
    ⟨.l 33, .r (.ld false 1), [.l 32], none⟩,
    ⟨.v 34, .p (.bin .gtr), [.l 33, .k (.m (.i .i64 1))], none⟩])
  (.ite (.v 34)
    (.seq
    (.reg [⟨.l 35, .p (.fad 2), [.v 1], none⟩,
      ⟨.l 36, .r (.ld false 1), [.l 35], none⟩,
      ⟨.l 37, .p .mv, [.v 4], none⟩,
      ⟨.l 38, .p (.ixa 2), [.l 36, .l 37], none⟩,
      ⟨.l 39, .p (.fad 1), [.l 38], none⟩,
      ⟨.v 40, .r (.ld false 1), [.l 39], none⟩,
      ⟨.v 41, .p (.len false), [.v 40], none⟩,
      ⟨.v 42, .p .mv, [.k (.m (.i .i64 0))], none⟩])
    (.blk 2
    c35_L0))
    .skip))))
  (.reg [⟨.l 21, .p .mv, [.v 4], none⟩,
    ⟨.l 22, .p (.bin .sub), [.l 21, .k (.m (.i .i64 1))], none⟩,
    ⟨.v 4, .p .mv, [.l 22], none⟩])))
def c35_L1 : C := .loop [0, 2, 20, 27, 34, 40, 41, 42, 43] c35_B1
def c35 : F := ⟨1, [.t 2],
  (.seq
  (.reg [⟨.v 1, .l (.bxp 1 3), [.v 0], none⟩,
    ⟨.v 2, .p .mv, [.k (.m (.b false))], none⟩])
  (.seq
  (.reg [⟨.l 7, .p (.fad 2), [.v 1], none⟩,
    ⟨.l 8, .r (.ld false 1), [.l 7], none⟩,
    ⟨.l 9, .p (.len false), [.l 8], none⟩,
    ⟨.l 10, .l (.mks 4 1 [.m (.b false)] 1), [.l 9, .l 9], none⟩,
    ⟨.v 3, .p .mv, [.l 10], none⟩])
  (.seq
  (.reg [⟨.l 11, .p .mv, [.v 3], none⟩,
    ⟨.l 12, .p .mv, [.v 3], none⟩,
    ⟨.l 13, .p (.len false), [.l 12], none⟩,
    ⟨.l 14, .p (.bin .sub), [.l 13, .k (.m (.i .i64 1))], none⟩,
    ⟨.l 15, .p (.ixa 1), [.l 11, .l 14], none⟩,
    ⟨.no, .l (.st 1), [.l 15, .k (.m (.b true))], none⟩])
  (.seq
  (.seq
  (.reg [⟨.l 16, .p .mv, [.v 3], none⟩,
    ⟨.l 17, .p (.len false), [.l 16], none⟩,
    ⟨.l 18, .p (.bin .sub), [.l 17, .k (.m (.i .i64 1))], none⟩,
    ⟨.v 4, .p .mv, [.l 18], none⟩])
  (.blk 0
  c35_L1))
  (.seq
  (.reg [⟨.v 2, .p .mv, [.k (.m (.b true))], none⟩])
  .ret)))))⟩

/- cellular/tree.Same -/
def c36 : F := ⟨2, [.t 4],
  (.seq
  (.reg [⟨.v 2, .l (.bxp 2 3), [.v 0], none⟩,
    ⟨.v 3, .l (.bxp 3 3), [.v 1], none⟩,
    ⟨.v 4, .p .mv, [.k (.m (.b false))], none⟩])
  (.seq
  (.reg [⟨.l 5, .p (.fad 0), [.v 2], none⟩,
    ⟨.l 6, .r (.ld false 1), [.l 5], none⟩,
    ⟨.l 7, .p (.fad 0), [.v 3], none⟩,
    ⟨.l 8, .r (.ld false 1), [.l 7], none⟩,
    ⟨.l 9, .p (.bin .eql), [.l 6, .l 8], none⟩,
    ⟨.l 10, .p .mv, [.l 9], none⟩,
    ⟨.l 11, .p (.fad 1), [.v 2], some (.l 10, true)⟩,
    ⟨.l 12, .r (.ld false 1), [.l 11], some (.l 10, true)⟩,
    ⟨.l 13, .p (.fad 1), [.v 3], some (.l 10, true)⟩,
    ⟨.l 14, .r (.ld false 1), [.l 13], some (.l 10, true)⟩,
    ⟨.l 15, .l (.cal 61), [.l 12, .l 14], some (.l 10, true)⟩,
    ⟨.l 16, .p .pick, [.l 10, .l 15, .k (.m (.b false))], none⟩,
    ⟨.l 17, .p .mv, [.l 16], none⟩,
    ⟨.l 18, .p (.fad 2), [.v 2], some (.l 17, true)⟩,
    ⟨.l 19, .r (.ld false 1), [.l 18], some (.l 17, true)⟩,
    ⟨.l 20, .p (.fad 2), [.v 3], some (.l 17, true)⟩,
    ⟨.l 21, .r (.ld false 1), [.l 20], some (.l 17, true)⟩,
    ⟨.l 22, .l (.cal 62), [.l 19, .l 21, .k (.m (.fn 63 []))], some (.l 17, true)⟩,
    ⟨.l 23, .p .pick, [.l 17, .l 22, .k (.m (.b false))], none⟩,
    ⟨.v 4, .p .mv, [.l 23], none⟩])
  .ret))⟩

/- cellular/reduce.Reduce -/
def c37 : F := ⟨1, [.c 2 3 true],
  (.seq
  (.reg [⟨.v 1, .l (.bxp 1 3), [.v 0], none⟩,
    ⟨.v 2, .l (.alp 2 [.m (.i .i64 0), .m (.nl 4), .m (.nl 4)]), [], none⟩])
  (.seq
  (.seq
  (.reg [⟨.l 3, .r (.ld true 3), [.v 1], none⟩,
    ⟨.l 4, .l (.cal 65), [.l 3], none⟩,
    ⟨.v 5, .p (.un .not), [.l 4], none⟩])
  (.ite (.v 5)
    (.seq
    (.reg [⟨.l 6, .p (.build [.m (.i .i64 0), .m (.nl 4), .m (.nl 4)] []), [], none⟩,
      ⟨.no, .l (.st 3), [.v 2, .l 6], none⟩])
    .ret)
    .skip))
  (.seq
  (.reg [⟨.l 7, .r (.ld true 3), [.v 1], none⟩,
    ⟨.l 8, .l (.cal 66), [.l 7, .k (.m (.fn 67 []))], none⟩,
    ⟨.no, .l (.st 3), [.v 2, .l 8], none⟩])
  .ret)))⟩

/- cellular/tree.Quiet -/
def c41 : F := ⟨1, [.t 2],
  (.seq
  (.reg [⟨.v 1, .l (.bxp 1 3), [.v 0], none⟩,
    ⟨.v 2, .p .mv, [.k (.m (.b false))], none⟩])
  (.seq
  (.reg [⟨.l 3, .r (.ld true 3), [.v 1], none⟩,
    ⟨.l 4, .l (.cal 65), [.l 3], none⟩,
    ⟨.l 5, .p .mv, [.l 4], none⟩,
    ⟨.l 6, .r (.ld true 3), [.v 1], some (.l 5, true)⟩,
    ⟨.l 7, .p (.fad 1), [.v 1], some (.l 5, true)⟩,
    ⟨.l 8, .r (.ld false 1), [.l 7], some (.l 5, true)⟩,
    ⟨.l 9, .p (.len false), [.l 8], some (.l 5, true)⟩,
    ⟨.l 10, .l (.mks 3 1 [.m (.i .i64 0)] 8), [.l 9, .l 9], some (.l 5, true)⟩,
    ⟨.l 11, .l (.cal 71), [.l 6, .l 10], some (.l 5, true)⟩,
    ⟨.l 12, .p (.bin .eql), [.l 11, .k (.m (.i .i64 0))], some (.l 5, true)⟩,
    ⟨.l 13, .p .pick, [.l 5, .l 12, .k (.m (.b false))], none⟩,
    ⟨.v 2, .p .mv, [.l 13], none⟩])
  .ret))⟩

/- slices.ContainsFunc[[]cellular/api.Frame,cellular/api.Frame] -/
def c42 : F := ⟨2, [.t 4],
  (.seq
  (.reg [⟨.v 4, .p .mv, [.k (.m (.b false))], none⟩])
  (.seq
  (.reg [⟨.l 5, .p .mv, [.v 0], none⟩,
    ⟨.l 6, .p .mv, [.v 1], none⟩,
    ⟨.l 7, .l (.cal 72), [.l 5, .l 6], none⟩,
    ⟨.l 8, .p (.bin .geq), [.l 7, .k (.m (.i .i64 0))], none⟩,
    ⟨.v 4, .p .mv, [.l 8], none⟩])
  .ret))⟩

/- cellular/audit.Timeline$1 -/
def c43 : F := ⟨1, [.t 2],
  (.seq
  (.reg [⟨.v 1, .l (.bxp 1 4), [.v 0], none⟩,
    ⟨.v 2, .p .mv, [.k (.m (.b false))], none⟩])
  (.seq
  (.reg [⟨.l 3, .r (.ld true 4), [.v 1], none⟩,
    ⟨.l 4, .l (.cal 44), [.l 3], none⟩,
    ⟨.l 5, .p (.un .not), [.l 4], none⟩,
    ⟨.v 2, .p .mv, [.l 5], none⟩])
  .ret))⟩

/- cellular/audit.fields -/
def c44 : F := ⟨1, [.t 2],
  (.seq
  (.reg [⟨.v 1, .l (.bxp 1 4), [.v 0], none⟩,
    ⟨.v 2, .p .mv, [.k (.m (.b false))], none⟩])
  (.seq
  (.seq
  (.reg [⟨.l 3, .p (.fad 1), [.v 1], none⟩,
    ⟨.v 4, .r (.ld false 1), [.l 3], none⟩])
  (.ite (.v 4)
    (.seq
    (.reg [⟨.l 5, .p (.fad 2), [.v 1], none⟩,
      ⟨.l 6, .r (.ld false 1), [.l 5], none⟩,
      ⟨.l 7, .l (.cal 73), [.l 6], none⟩,
      ⟨.l 8, .p .mv, [.l 7], none⟩,
      ⟨.l 9, .p (.fad 3), [.v 1], some (.l 8, true)⟩,
      ⟨.l 10, .r (.ld false 1), [.l 9], some (.l 8, true)⟩,
      ⟨.l 11, .p (.len false), [.l 10], some (.l 8, true)⟩,
      ⟨.l 12, .p (.bin .eql), [.l 11, .k (.m (.i .i64 0))], some (.l 8, true)⟩,
      ⟨.l 13, .p .pick, [.l 8, .l 12, .k (.m (.b false))], none⟩,
      ⟨.v 2, .p .mv, [.l 13], none⟩])
    .ret)
    .skip))
  (.seq
  (.reg [⟨.l 14, .p (.fad 2), [.v 1], none⟩,
    ⟨.l 15, .r (.ld false 1), [.l 14], none⟩,
    ⟨.l 16, .p (.len false), [.l 15], none⟩,
    ⟨.l 17, .p (.bin .eql), [.l 16, .k (.m (.i .i64 0))], none⟩,
    ⟨.l 18, .p .mv, [.l 17], none⟩,
    ⟨.l 19, .p (.fad 3), [.v 1], some (.l 18, true)⟩,
    ⟨.l 20, .r (.ld false 1), [.l 19], some (.l 18, true)⟩,
    ⟨.l 21, .l (.cal 74), [.l 20], some (.l 18, true)⟩,
    ⟨.l 22, .p .pick, [.l 18, .l 21, .k (.m (.b false))], none⟩,
    ⟨.v 2, .p .mv, [.l 22], none⟩])
  .ret)))⟩

/- cellular/audit.changes -/
def c45_B0 : C :=
  (.seq
  (.reg [⟨.v 12, .p (.bin .lss), [.v 11, .v 10], none⟩])
  (.seq
  (.ite (.v 12)
    .skip
    (.ex 0))
  (.seq
  (.blk 1
  (.seq
  (.reg [⟨.l 13, .p (.ixa 4), [.v 9, .v 11], none⟩,
    ⟨.l 14, .r (.ld true 4), [.l 13], none⟩,
    ⟨.v 5, .l (.alp 5 [.m (.i .i64 0), .m (.b false), .m (.nl 4), .m (.nl 4)]), [], none⟩,
    ⟨.no, .l (.st 4), [.v 5, .l 14], none⟩])
  (.seq
  (.seq
  (.reg [⟨.l 15, .p (.fad 1), [.v 5], none⟩,
    ⟨.v 16, .r (.ld false 1), [.l 15], none⟩])
  (.ite (.v 16)
    (.seq
    (.reg [⟨.l 17, .p (.fad 2), [.v 5], none⟩,
      ⟨.l 18, .r (.ld false 1), [.l 17], none⟩,
      ⟨.v 3, .p .mv, [.l 18], none⟩])
    (.ex 1))
    .skip))
  (.seq
  (.reg [⟨.l 20, .p .mv, [.v 3], none⟩,
    ⟨.l 21, .p (.fad 3), [.v 5], none⟩,
    ⟨.l 22, .r (.ld false 1), [.l 21], none⟩,
    ⟨.l 23, .l (.cal 75), [.l 20, .l 22], none⟩,
    ⟨.l 19, .p .mv, [.l 23], none⟩,
    ⟨.l 24, .p (.ext 0), [.l 19], none⟩,
    ⟨.l 25, .p (.ext 1), [.l 19], none⟩,
    ⟨.v 6, .p .mv, [.l 24], none⟩,
    ⟨.v 7, .p .mv, [.l 25], none⟩])
  (.seq
  (.seq
  (.reg [⟨.l 26, .p .mv, [.v 7], none⟩,
    ⟨.v 27, .p (.bin .neq), [.l 26, .k (.m (.i .i64 0))], none⟩])
  (.ite (.v 27)
    (.seq
    (.reg [⟨.v 2, .p .mv, [.k (.m (.b false))], none⟩])
    .ret)
    .skip))
  (.reg [⟨.l 28, .p .mv, [.v 6], none⟩,
    ⟨.v 3, .p .mv, [.l 28], none⟩]))))))
  (.reg [⟨.l 29, .p (.bin .add), [.v 11, .k (.m (.i .i64 1))], none⟩,
    ⟨.v 11, .p .mv, [.l 29], none⟩]))))
def c45_L0 : C := .loop [0, 1, 2, 5, 6, 7, 12, 16, 27] c45_B0
def c45 : F := ⟨1, [.t 2],
  (.seq
  (.reg [⟨.v 1, .l (.bxp 1 2), [.v 0], none⟩,
    ⟨.v 2, .p .mv, [.k (.m (.b false))], none⟩])
  (.seq
  (.reg [⟨.v 3, .p .mv, [.k (.m (.nl 4))], none⟩])
  (.seq
  (.seq
  (.reg [⟨.l 8, .p (.fad 1), [.v 1], none⟩,
    ⟨.v 9, .r (.ld false 1), [.l 8], none⟩,
    ⟨.v 10, .p (.len false), [.v 9], none⟩,
    ⟨.v 11, .p .mv, [.k (.m (.i .i64 0))], none⟩])
  (.blk 0
  c45_L0))
  (.seq
  (.reg [⟨.v 2, .p .mv, [.k (.m (.b true))], none⟩])
  .ret))))⟩

/- cellular/timeline.Follows -/
def c46_B0 : C :=
  (.seq
  (.seq
  (.reg [⟨.l 25, .p .mv, [.v 8], none⟩,
    ⟨.l 26, .p .mv, [.v 6], none⟩,
    ⟨.l 27, .p (.len false), [.l 26], none⟩,
    ⟨.v 28, .p (.bin .lss), [.l 25, .l 27], none⟩])
  (.ite (.v 28)
    .skip
    (.ex 0)))
  (.seq
  (.blk 1
  (.seq
  (.reg [⟨.l 31, .p (.fad 1), [.v 3], none⟩,
    ⟨.l 32, .r (.ld false 1), [.l 31], none⟩,
    ⟨.l 33, .p .mv, [.v 8], none⟩,
    ⟨.l 34, .p (.ixa 4), [.l 32, .l 33], none⟩,
    ⟨.l 35, .p (.fad 0), [.l 34], none⟩,
    ⟨.l 36, .r (.ld false 1), [.l 35], none⟩,
    ⟨.l 37, .p (.fad 1), [.v 3], none⟩,
    ⟨.l 38, .r (.ld false 1), [.l 37], none⟩,
    ⟨.l 39, .p .mv, [.v 8], none⟩,
    ⟨.l 40, .p (.bin .sub), [.l 39, .k (.m (.i .i64 1))], none⟩,
    ⟨.l 41, .p (.ixa 4), [.l 38, .l 40], none⟩,
    ⟨.l 42, .p (.fad 0), [.l 41], none⟩,
    ⟨.l 43, .r (.ld false 1), [.l 42], none⟩,
    ⟨.l 44, .p (.bin .sub), [.l 36, .l 43], none⟩,
    ⟨.v 9, .p .mv, [.l 44], none⟩])
  (.seq
  (.seq
  (.reg [⟨.l 45, .p .mv, [.v 9], none⟩,
    ⟨.v 46, .p (.bin .gtr), [.l 45, .k (.m (.i .i64 10000))], none⟩])
  (.ite (.v 46)
    (.seq
    (.reg [⟨.v 4, .p .mv, [.k (.m (.i .i64 0))], none⟩,
      ⟨.v 5, .p .mv, [.k (.m (.i .i64 14))], none⟩])
    .ret)
    .skip))
  (.seq
  (.reg [⟨.l 48, .r (.ld true 3), [.v 2], none⟩,
    ⟨.l 49, .p .mv, [.v 6], none⟩,
    ⟨.l 50, .p .mv, [.v 8], none⟩,
    ⟨.l 51, .p (.bin .sub), [.l 50, .k (.m (.i .i64 1))], none⟩,
    ⟨.l 52, .p (.ixa 1), [.l 49, .l 51], none⟩,
    ⟨.l 53, .r (.ld false 1), [.l 52], none⟩,
    ⟨.l 54, .p .mv, [.v 9], none⟩,
    ⟨.l 55, .l (.cal 80), [.l 48, .l 53, .l 54], none⟩,
    ⟨.l 47, .p .mv, [.l 55], none⟩,
    ⟨.l 56, .p (.ext 0), [.l 47], none⟩,
    ⟨.l 57, .p (.ext 1), [.l 47], none⟩,
    ⟨.v 10, .p .mv, [.l 56], none⟩,
    ⟨.v 11, .p .mv, [.l 57], none⟩])
  (.seq
  (.seq
  (.reg [⟨.l 58, .p .mv, [.v 11], none⟩,
    ⟨.v 59, .p (.bin .neq), [.l 58, .k (.m (.i .i64 0))], none⟩])
  (.ite (.v 59)
    (.seq
    (.reg [⟨.l 60, .p .mv, [.v 11], none⟩,
      ⟨.v 4, .p .mv, [.k (.m (.i .i64 0))], none⟩,
      ⟨.v 5, .p .mv, [.l 60], none⟩])
    .ret)
    .skip))
  (.seq
  (.reg [⟨.l 61, .p .mv, [.v 10], none⟩,
    ⟨.l 62, .p .mv, [.v 6], none⟩,
    ⟨.l 63, .p .mv, [.v 8], none⟩,
    ⟨.l 64, .p (.ixa 1), [.l 62, .l 63], none⟩,
    ⟨.l 65, .r (.ld false 1), [.l 64], none⟩,
    ⟨.l 66, .l (.cal 81), [.l 61, .l 65], none⟩,
    ⟨.v 67, .p (.un .not), [.l 66], none⟩])
  (.ite (.v 67)
    (.seq
    (.reg [⟨.l 68, .p .mv, [.v 8], none⟩,
      ⟨.v 4, .p .mv, [.l 68], none⟩,
      ⟨.v 5, .p .mv, [.k (.m (.i .i64 0))], none⟩])
    .ret)
    .skip)))))))
  (.reg [⟨.l 29, .p .mv, [.v 8], none⟩,
    ⟨.l 30, .p (.bin .add), [.l 29, .k (.m (.i .i64 1))], none⟩,
    ⟨.v 8, .p .mv, [.l 30], none⟩])))
def c46_L0 : C := .loop [0, 1, 4, 5, 7, 9, 10, 11, 14, 21, 24, 28, 46, 59, 67] c46_B0
def c46 : F := ⟨2, [.t 4, .t 5],
  (.seq
  (.reg [⟨.v 2, .l (.bxs 31 3 1), [.v 0], none⟩,
    ⟨.v 3, .l (.bxp 3 2), [.v 1], none⟩,
    ⟨.v 4, .p .mv, [.k (.m (.i .i64 0))], none⟩,
    ⟨.v 5, .p .mv, [.k (.m (.i .i64 0))], none⟩])
  (.seq
  (.seq
  (.reg [⟨.l 12, .r (.ld true 3), [.v 2], none⟩,
    ⟨.l 13, .l (.cal 41), [.l 12], none⟩,
    ⟨.v 14, .p (.un .not), [.l 13], none⟩])
  (.ite (.v 14)
    (.seq
    (.reg [⟨.v 4, .p .mv, [.k (.m (.i .i64 0))], none⟩,
      ⟨.v 5, .p .mv, [.k (.m (.i .i64 11))], none⟩])
    .ret)
    .skip))
  (.seq
  (.reg [⟨.l 16, .r (.ld true 2), [.v 3], none⟩,
    ⟨.l 17, .l (.cal 76), [.l 16], none⟩,
    ⟨.l 15, .p .mv, [.l 17], none⟩,
    ⟨.l 18, .p (.ext 0), [.l 15], none⟩,
    ⟨.l 19, .p (.ext 1), [.l 15], none⟩,
    ⟨.v 6, .p .mv, [.l 18], none⟩,
    ⟨.v 7, .p .mv, [.l 19], none⟩])
  (.seq
  (.seq
  (.reg [⟨.l 20, .p .mv, [.v 7], none⟩,
    ⟨.v 21, .p (.un .not), [.l 20], none⟩])
  (.ite (.v 21)
    (.seq
    (.reg [⟨.v 4, .p .mv, [.k (.m (.i .i64 0))], none⟩,
      ⟨.v 5, .p .mv, [.k (.m (.i .i64 2))], none⟩])
    .ret)
    .skip))
  (.seq
  (.seq
  (.reg [⟨.l 22, .p .mv, [.v 6], none⟩,
    ⟨.l 23, .p (.mkf 78), [.v 2], none⟩,
    ⟨.v 24, .l (.cal 77), [.l 22, .l 23], none⟩])
  (.ite (.v 24)
    (.seq
    (.reg [⟨.v 4, .p .mv, [.k (.m (.i .i64 0))], none⟩,
      ⟨.v 5, .p .mv, [.k (.m (.i .i64 10))], none⟩])
    .ret)
    .skip))
  (.seq
  (.seq
  (.reg [⟨.v 8, .p .mv, [.k (.m (.i .i64 1))], none⟩])
  (.blk 0
  c46_L0))
  (.seq
  (.reg [⟨.v 4, .p .mv, [.k (.m (.i .i64 (-1)))], none⟩,
    ⟨.v 5, .p .mv, [.k (.m (.i .i64 0))], none⟩])
  .ret)))))))⟩

/- cellular/recipe.Start -/
def c55_B0 : C :=
  (.seq
  (.reg [⟨.v 23, .p (.bin .lss), [.v 22, .v 21], none⟩])
  (.seq
  (.ite (.v 23)
    .skip
    (.ex 0))
  (.seq
  (.blk 1
  (.seq
  (.reg [⟨.l 24, .p (.ixa 1), [.v 20, .v 22], none⟩,
    ⟨.l 25, .r (.ld false 1), [.l 24], none⟩,
    ⟨.v 10, .p .mv, [.l 25], none⟩])
  (.reg [⟨.l 26, .p .mv, [.v 8], none⟩,
    ⟨.l 27, .p .mv, [.v 10], none⟩,
    ⟨.l 28, .l (.app 113 3 24), [.l 26, .l 27], none⟩,
    ⟨.v 8, .p .mv, [.l 28], none⟩])))
  (.reg [⟨.l 29, .p (.bin .add), [.v 22, .k (.m (.i .i64 1))], none⟩,
    ⟨.v 22, .p .mv, [.l 29], none⟩]))))
def c55_L0 : C := .loop [0, 1, 2, 3, 4, 5, 6, 7, 10, 18, 23] c55_B0
def c55 : F := ⟨2, [.t 4, .t 5],
  (.seq
  (.reg [⟨.v 2, .l (.bxp 2 3), [.v 0], none⟩,
    ⟨.v 3, .l (.bxp 3 4), [.v 1], none⟩,
    ⟨.v 4, .p .mv, [.k (.m (.nl 4))], none⟩,
    ⟨.v 5, .p .mv, [.k (.m (.i .i64 0))], none⟩])
  (.seq
  (.reg [⟨.l 12, .r (.ld true 3), [.v 2], none⟩,
    ⟨.l 13, .r (.ld true 4), [.v 3], none⟩,
    ⟨.l 14, .l (.cal 93), [.l 12, .l 13], none⟩,
    ⟨.l 11, .p .mv, [.l 14], none⟩,
    ⟨.l 15, .p (.ext 0), [.l 11], none⟩,
    ⟨.l 16, .p (.ext 1), [.l 11], none⟩,
    ⟨.v 6, .p .mv, [.l 15], none⟩,
    ⟨.v 7, .p .mv, [.l 16], none⟩])
  (.seq
  (.seq
  (.reg [⟨.l 17, .p .mv, [.v 7], none⟩,
    ⟨.v 18, .p (.bin .neq), [.l 17, .k (.m (.i .i64 0))], none⟩])
  (.ite (.v 18)
    (.seq
    (.reg [⟨.l 19, .p .mv, [.v 7], none⟩,
      ⟨.v 4, .p .mv, [.k (.m (.nl 4))], none⟩,
      ⟨.v 5, .p .mv, [.l 19], none⟩])
    .ret)
    .skip))
  (.seq
  (.reg [⟨.v 8, .p .mv, [.k (.m (.nl 4))], none⟩])
  (.seq
  (.seq
  (.reg [⟨.v 20, .p .mv, [.v 6], none⟩,
    ⟨.v 21, .p (.len false), [.v 20], none⟩,
    ⟨.v 22, .p .mv, [.k (.m (.i .i64 0))], none⟩])
  (.blk 0
  c55_L0))
  (.seq
  (.reg [⟨.l 30, .p .mv, [.v 8], none⟩,
    ⟨.l 31, .l (.cal 94), [.l 30], none⟩,
    ⟨.l 32, .p (.ext 0), [.l 31], none⟩,
    ⟨.l 33, .p (.ext 1), [.l 31], none⟩,
    ⟨.v 4, .p .mv, [.l 32], none⟩,
    ⟨.v 5, .p .mv, [.l 33], none⟩])
  .ret))))))⟩

/- cellular/ship.Place -/
def c56 : F := ⟨3, [.t 6, .t 7],
  (.seq
  (.reg [⟨.v 3, .l (.bxp 3 3), [.v 0], none⟩,
    ⟨.v 5, .l (.bxp 5 5), [.v 2], none⟩,
    ⟨.v 6, .p .mv, [.k (.m (.nl 4))], none⟩,
    ⟨.v 7, .p .mv, [.k (.m (.i .i64 0))], none⟩])
  (.seq
  (.blk 0
  (.seq
  (.reg [⟨.l 11, .r (.ld true 3), [.v 3], none⟩,
    ⟨.l 12, .l (.cal 41), [.l 11], none⟩,
    ⟨.l 13, .p (.un .not), [.l 12], none⟩,
    ⟨.v 10, .p .mv, [.l 13], none⟩])
  (.ite (.v 10)
    (.seq
    (.reg [⟨.v 6, .p .mv, [.k (.m (.nl 4))], none⟩,
      ⟨.v 7, .p .mv, [.k (.m (.i .i64 11))], none⟩])
    .ret)
    (.seq
    (.reg [⟨.l 15, .p (.fad 0), [.v 5], none⟩,
      ⟨.l 16, .r (.ld false 1), [.l 15], none⟩,
      ⟨.l 17, .p (.bin .lss), [.l 16, .k (.m (.i .i64 0))], none⟩,
      ⟨.l 18, .p .mv, [.l 17], none⟩,
      ⟨.l 19, .p (.fad 0), [.v 5], some (.l 18, false)⟩,
      ⟨.l 20, .r (.ld false 1), [.l 19], some (.l 18, false)⟩,
      ⟨.l 21, .p .mv, [.v 1], some (.l 18, false)⟩,
      ⟨.l 22, .p (.len false), [.l 21], some (.l 18, false)⟩,
      ⟨.l 23, .p (.bin .geq), [.l 20, .l 22], some (.l 18, false)⟩,
      ⟨.l 24, .p .pick, [.l 18, .k (.m (.b true)), .l 23], none⟩,
      ⟨.v 14, .p .mv, [.l 24], none⟩])
    (.ite (.v 14)
      (.seq
      (.reg [⟨.v 6, .p .mv, [.k (.m (.nl 4))], none⟩,
        ⟨.v 7, .p .mv, [.k (.m (.i .i64 13))], none⟩])
      .ret)
      (.seq
      (.reg [⟨.l 26, .p (.fad 2), [.v 5], none⟩,
        ⟨.l 27, .r (.ld false 1), [.l 26], none⟩,
        ⟨.l 28, .p (.bin .lss), [.l 27, .k (.m (.i .i64 0))], none⟩,
        ⟨.l 29, .p .mv, [.l 28], none⟩,
        ⟨.l 30, .p (.fad 2), [.v 5], some (.l 29, false)⟩,
        ⟨.l 31, .r (.ld false 1), [.l 30], some (.l 29, false)⟩,
        ⟨.l 32, .p (.bin .gtr), [.l 31, .k (.m (.i .i64 7))], some (.l 29, false)⟩,
        ⟨.l 33, .p .pick, [.l 29, .k (.m (.b true)), .l 32], none⟩,
        ⟨.v 25, .p .mv, [.l 33], none⟩])
      (.ite (.v 25)
        (.seq
        (.reg [⟨.v 6, .p .mv, [.k (.m (.nl 4))], none⟩,
          ⟨.v 7, .p .mv, [.k (.m (.i .i64 2))], none⟩])
        .ret)
        .skip)))))))
  (.seq
  (.reg [⟨.l 35, .r (.ld true 3), [.v 3], none⟩,
    ⟨.l 36, .p .mv, [.v 1], none⟩,
    ⟨.l 37, .p (.fad 0), [.v 5], none⟩,
    ⟨.l 38, .r (.ld false 1), [.l 37], none⟩,
    ⟨.l 39, .p (.ixa 4), [.l 36, .l 38], none⟩,
    ⟨.l 40, .r (.ld true 4), [.l 39], none⟩,
    ⟨.l 41, .p (.fad 1), [.v 5], none⟩,
    ⟨.l 42, .r (.ld false 1), [.l 41], none⟩,
    ⟨.l 43, .l (.cal 95), [.l 35, .l 40, .l 42], none⟩,
    ⟨.l 34, .p .mv, [.l 43], none⟩,
    ⟨.l 44, .p (.ext 0), [.l 34], none⟩,
    ⟨.l 45, .p (.ext 1), [.l 34], none⟩,
    ⟨.v 8, .p .mv, [.l 44], none⟩,
    ⟨.v 9, .p .mv, [.l 45], none⟩])
  (.seq
  (.seq
  (.reg [⟨.l 46, .p .mv, [.v 9], none⟩,
    ⟨.v 47, .p (.bin .neq), [.l 46, .k (.m (.i .i64 0))], none⟩])
  (.ite (.v 47)
    (.seq
    (.reg [⟨.l 48, .p .mv, [.v 9], none⟩,
      ⟨.v 6, .p .mv, [.k (.m (.nl 4))], none⟩,
      ⟨.v 7, .p .mv, [.l 48], none⟩])
    .ret)
    .skip))
  (.seq
  (.seq
  (.reg [⟨.l 50, .p (.fad 2), [.v 5], none⟩,
    ⟨.l 51, .r (.ld false 1), [.l 50], none⟩,
    ⟨.l 52, .p .mv, [.v 8], none⟩,
    ⟨.l 53, .l (.cal 96), [.l 51, .l 52], none⟩,
    ⟨.l 49, .p .mv, [.l 53], none⟩,
    ⟨.l 54, .p (.ext 0), [.l 49], none⟩,
    ⟨.l 55, .p (.ext 1), [.l 49], none⟩,
    ⟨.v 8, .p .mv, [.l 54], none⟩,
    ⟨.v 9, .p .mv, [.l 55], none⟩])
  (.seq
  (.reg [⟨.l 56, .p .mv, [.v 9], none⟩,
    ⟨.v 57, .p (.bin .neq), [.l 56, .k (.m (.i .i64 0))], none⟩])
  (.ite (.v 57)
    (.seq
    (.reg [⟨.l 58, .p .mv, [.v 9], none⟩,
      ⟨.v 6, .p .mv, [.k (.m (.nl 4))], none⟩,
      ⟨.v 7, .p .mv, [.l 58], none⟩])
    .ret)
    .skip)))
  (.seq
  (.reg [⟨.l 59, .p .mv, [.v 8], none⟩,
    ⟨.l 60, .l (.cal 98), [.l 59], none⟩,
    ⟨.l 61, .p (.fad 3), [.v 5], none⟩,
    ⟨.l 62, .r (.ld false 1), [.l 61], none⟩,
    ⟨.l 63, .p (.fad 4), [.v 5], none⟩,
    ⟨.l 64, .r (.ld false 1), [.l 63], none⟩,
    ⟨.l 65, .l (.cal 97), [.l 60, .l 62, .l 64], none⟩,
    ⟨.l 66, .p (.ext 0), [.l 65], none⟩,
    ⟨.l 67, .p (.ext 1), [.l 65], none⟩,
    ⟨.v 6, .p .mv, [.l 66], none⟩,
    ⟨.v 7, .p .mv, [.l 67], none⟩])
  .ret))))))⟩

/- cellular/recipe.Check -/
def c57 : F := ⟨2, [.t 4],
  (.seq
  (.reg [⟨.v 2, .l (.bxp 2 3), [.v 0], none⟩,
    ⟨.v 3, .l (.bxp 3 4), [.v 1], none⟩,
    ⟨.v 4, .p .mv, [.k (.m (.i .i64 0))], none⟩])
  (.seq
  (.reg [⟨.l 9, .r (.ld true 3), [.v 2], none⟩,
    ⟨.l 10, .r (.ld true 4), [.v 3], none⟩,
    ⟨.l 11, .l (.cal 55), [.l 9, .l 10], none⟩,
    ⟨.l 8, .p .mv, [.l 11], none⟩,
    ⟨.l 12, .p (.ext 0), [.l 8], none⟩,
    ⟨.l 13, .p (.ext 1), [.l 8], none⟩,
    ⟨.v 5, .p .mv, [.l 12], none⟩,
    ⟨.v 6, .p .mv, [.l 13], none⟩])
  (.seq
  (.seq
  (.reg [⟨.l 14, .p .mv, [.v 6], none⟩,
    ⟨.v 15, .p (.bin .neq), [.l 14, .k (.m (.i .i64 0))], none⟩])
  (.ite (.v 15)
    (.seq
    (.reg [⟨.l 16, .p .mv, [.v 6], none⟩,
      ⟨.v 4, .p .mv, [.l 16], none⟩])
    .ret)
    .skip))
  (.seq
  (.reg [⟨.l 18, .r (.ld true 3), [.v 2], none⟩,
    ⟨.l 19, .p .mv, [.v 5], none⟩,
    ⟨.l 20, .p (.fad 2), [.v 3], none⟩,
    ⟨.l 21, .r (.ld false 1), [.l 20], none⟩,
    ⟨.l 22, .l (.cal 80), [.l 18, .l 19, .l 21], none⟩,
    ⟨.l 17, .p .mv, [.l 22], none⟩,
    ⟨.l 23, .p (.ext 0), [.l 17], none⟩,
    ⟨.l 24, .p (.ext 1), [.l 17], none⟩,
    ⟨.v 7, .p .mv, [.l 23], none⟩,
    ⟨.v 6, .p .mv, [.l 24], none⟩])
  (.seq
  (.seq
  (.reg [⟨.l 25, .p .mv, [.v 6], none⟩,
    ⟨.v 26, .p (.bin .neq), [.l 25, .k (.m (.i .i64 0))], none⟩])
  (.ite (.v 26)
    (.seq
    (.reg [⟨.l 27, .p .mv, [.v 6], none⟩,
      ⟨.v 4, .p .mv, [.l 27], none⟩])
    .ret)
    .skip))
  (.seq
  (.seq
  (.reg [⟨.l 28, .p .mv, [.v 7], none⟩,
    ⟨.l 29, .p (.fad 3), [.v 3], none⟩,
    ⟨.l 30, .r (.ld false 1), [.l 29], none⟩,
    ⟨.l 31, .l (.cal 81), [.l 28, .l 30], none⟩,
    ⟨.v 32, .p (.un .not), [.l 31], none⟩])
  (.ite (.v 32)
    (.seq
    (.reg [⟨.v 4, .p .mv, [.k (.m (.i .i64 17))], none⟩])
    .ret)
    .skip))
  (.seq
  (.reg [⟨.v 4, .p .mv, [.k (.m (.i .i64 0))], none⟩])
  .ret)))))))⟩

/- cellular/quad.Load -/
def c58_B0 : C :=
  (.seq
  (.reg [⟨.v 28, .p (.bin .lss), [.v 27, .v 26], none⟩])
  (.seq
  (.ite (.v 28)
    .skip
    (.ex 0))
  (.seq
  (.blk 1
  (.seq
  (.reg [⟨.l 29, .p .mv, [.v 27], none⟩,
    ⟨.l 30, .p (.ixa 4), [.v 25, .v 27], none⟩,
    ⟨.l 31, .r (.ld true 4), [.l 30], none⟩,
    ⟨.v 7, .l (.alp 7 [.m (.i .i64 0), .m (.i .i64 0), .m (.i .i64 0), .m (.i .i64 0)]), [], none⟩,
    ⟨.v 6, .p .mv, [.l 29], none⟩,
    ⟨.no, .l (.st 4), [.v 7, .l 31], none⟩])
  (.seq
  (.reg [⟨.l 33, .p .mv, [.v 4], none⟩,
    ⟨.l 34, .p (.fad 0), [.v 7], none⟩,
    ⟨.l 35, .p (.ixaA 4 1), [.l 34, .k (.m (.i .i64 0))], none⟩,
    ⟨.l 36, .r (.ld false 1), [.l 35], none⟩,
    ⟨.l 37, .p (.fad 0), [.v 7], none⟩,
    ⟨.l 38, .p (.ixaA 4 1), [.l 37, .k (.m (.i .i64 1))], none⟩,
    ⟨.l 39, .r (.ld false 1), [.l 38], none⟩,
    ⟨.l 40, .p (.fad 0), [.v 7], none⟩,
    ⟨.l 41, .p (.ixaA 4 1), [.l 40, .k (.m (.i .i64 2))], none⟩,
    ⟨.l 42, .r (.ld false 1), [.l 41], none⟩,
    ⟨.l 43, .p (.fad 0), [.v 7], none⟩,
    ⟨.l 44, .p (.ixaA 4 1), [.l 43, .k (.m (.i .i64 3))], none⟩,
    ⟨.l 45, .r (.ld false 1), [.l 44], none⟩,
    ⟨.l 46, .l (.cal 100), [.l 33, .l 36, .l 39, .l 42, .l 45], none⟩,
    ⟨.l 32, .p .mv, [.l 46], none⟩,
    ⟨.l 47, .p (.ext 0), [.l 32], none⟩,
    ⟨.l 48, .p (.ext 1), [.l 32], none⟩,
    ⟨.v 8, .p .mv, [.l 47], none⟩,
    ⟨.v 9, .p .mv, [.l 48], none⟩])
  (.seq
  (.reg [⟨.l 49, .p .mv, [.v 9], none⟩,
    ⟨.l 50, .p (.bin .neq), [.l 49, .k (.m (.i .i64 0))], none⟩,
    ⟨.l 51, .p .mv, [.l 50], none⟩,
    ⟨.l 52, .p .mv, [.v 8], some (.l 51, false)⟩,
    ⟨.l 53, .p (.fad 0), [.v 1], some (.l 51, false)⟩,
    ⟨.l 54, .r (.ld false 1), [.l 53], some (.l 51, false)⟩,
    ⟨.l 55, .p .mv, [.v 6], some (.l 51, false)⟩,
    ⟨.l 56, .p (.bin .add), [.l 54, .l 55], some (.l 51, false)⟩,
    ⟨.l 57, .p (.bin .neq), [.l 52, .l 56], some (.l 51, false)⟩,
    ⟨.v 58, .p .pick, [.l 51, .k (.m (.b true)), .l 57], none⟩])
  (.ite (.v 58)
    (.seq
    (.reg [⟨.v 2, .p .mv, [.k (.m (.nl 0))], none⟩,
      ⟨.v 3, .p .mv, [.k (.m (.i .i64 2))], none⟩])
    .ret)
    .skip)))))
  (.reg [⟨.l 59, .p (.bin .add), [.v 27, .k (.m (.i .i64 1))], none⟩,
    ⟨.v 27, .p .mv, [.l 59], none⟩]))))
def c58_L0 : C := .loop [0, 2, 3, 5, 6, 7, 8, 9, 23, 28, 58] c58_B0
def c58 : F := ⟨1, [.t 2, .t 3],
  (.seq
  (.reg [⟨.v 1, .l (.bxp 1 2), [.v 0], none⟩,
    ⟨.v 2, .p .mv, [.k (.m (.nl 0))], none⟩,
    ⟨.v 3, .p .mv, [.k (.m (.i .i64 0))], none⟩])
  (.seq
  (.reg [⟨.l 11, .p (.fad 0), [.v 1], none⟩,
    ⟨.l 12, .r (.ld false 1), [.l 11], none⟩,
    ⟨.l 13, .l (.cal 99), [.l 12], none⟩,
    ⟨.l 10, .p .mv, [.l 13], none⟩,
    ⟨.l 14, .p (.ext 0), [.l 10], none⟩,
    ⟨.l 15, .p (.ext 1), [.l 10], none⟩,
    ⟨.v 4, .p .mv, [.l 14], none⟩,
    ⟨.v 5, .p .mv, [.l 15], none⟩])
  (.seq
  (.seq
  (.reg [⟨.l 16, .p .mv, [.v 5], none⟩,
    ⟨.l 17, .p (.bin .neq), [.l 16, .k (.m (.i .i64 0))], none⟩,
    ⟨.l 18, .p .mv, [.l 17], none⟩,
    ⟨.l 19, .p (.fad 1), [.v 1], some (.l 18, false)⟩,
    ⟨.l 20, .r (.ld false 1), [.l 19], some (.l 18, false)⟩,
    ⟨.l 21, .p (.len false), [.l 20], some (.l 18, false)⟩,
    ⟨.l 22, .p (.bin .gtr), [.l 21, .k (.m (.i .i64 100000))], some (.l 18, false)⟩,
    ⟨.v 23, .p .pick, [.l 18, .k (.m (.b true)), .l 22], none⟩])
  (.ite (.v 23)
    (.seq
    (.reg [⟨.v 2, .p .mv, [.k (.m (.nl 0))], none⟩,
      ⟨.v 3, .p .mv, [.k (.m (.i .i64 2))], none⟩])
    .ret)
    .skip))
  (.seq
  (.seq
  (.reg [⟨.l 24, .p (.fad 1), [.v 1], none⟩,
    ⟨.v 25, .r (.ld false 1), [.l 24], none⟩,
    ⟨.v 26, .p (.len false), [.v 25], none⟩,
    ⟨.v 27, .p .mv, [.k (.m (.i .i64 0))], none⟩])
  (.blk 0
  c58_L0))
  (.seq
  (.reg [⟨.l 60, .p .mv, [.v 4], none⟩,
    ⟨.v 2, .p .mv, [.l 60], none⟩,
    ⟨.v 3, .p .mv, [.k (.m (.i .i64 0))], none⟩])
  .ret)))))⟩

/- cellular/point.Compare -/
def c59 : F := ⟨2, [.t 4],
  (.seq
  (.reg [⟨.v 2, .l (.bxp 2 2), [.v 0], none⟩,
    ⟨.v 3, .l (.bxp 3 2), [.v 1], none⟩,
    ⟨.v 4, .p .mv, [.k (.m (.i .i64 0))], none⟩])
  (.seq
  (.reg [⟨.l 5, .p (.fad 1), [.v 2], none⟩,
    ⟨.l 6, .r (.ld false 1), [.l 5], none⟩,
    ⟨.l 7, .p (.fad 1), [.v 3], none⟩,
    ⟨.l 8, .r (.ld false 1), [.l 7], none⟩,
    ⟨.l 9, .l (.cal 102), [.l 6, .l 8], none⟩,
    ⟨.l 10, .p (.fad 0), [.v 2], none⟩,
    ⟨.l 11, .r (.ld false 1), [.l 10], none⟩,
    ⟨.l 12, .p (.fad 0), [.v 3], none⟩,
    ⟨.l 13, .r (.ld false 1), [.l 12], none⟩,
    ⟨.l 14, .l (.cal 102), [.l 11, .l 13], none⟩,
    ⟨.l 15, .p (.bsl 1 [.m (.i .i64 0)] 2 [0, 1]), [.l 9, .l 14], none⟩,
    ⟨.l 16, .l (.cal 101), [.l 15], none⟩,
    ⟨.v 4, .p .mv, [.l 16], none⟩])
  .ret))⟩

/- slices.IndexFunc[[]cellular/api.Node,cellular/api.Node] -/
def c60_B0 : C :=
  (.seq
  (.reg [⟨.v 9, .p (.bin .lss), [.v 8, .v 7], none⟩])
  (.seq
  (.ite (.v 9)
    .skip
    (.ex 0))
  (.seq
  (.blk 1
  (.seq
  (.reg [⟨.l 10, .p .mv, [.v 8], none⟩,
    ⟨.v 5, .p .mv, [.l 10], none⟩])
  (.seq
  (.reg [⟨.l 11, .p .mv, [.v 1], none⟩,
    ⟨.l 12, .p .mv, [.v 0], none⟩,
    ⟨.l 13, .p .mv, [.v 5], none⟩,
    ⟨.l 14, .p (.ixa 2), [.l 12, .l 13], none⟩,
    ⟨.l 15, .r (.ld true 2), [.l 14], none⟩,
    ⟨.v 16, .l .cav, [.l 11, .l 15], none⟩])
  (.ite (.v 16)
    (.seq
    (.reg [⟨.l 17, .p .mv, [.v 5], none⟩,
      ⟨.v 4, .p .mv, [.l 17], none⟩])
    .ret)
    .skip))))
  (.reg [⟨.l 18, .p (.bin .add), [.v 8, .k (.m (.i .i64 1))], none⟩,
    ⟨.v 8, .p .mv, [.l 18], none⟩]))))
def c60_L0 : C := .loop [4, 5, 9, 16] c60_B0
def c60 : F := ⟨2, [.t 4],
  (.seq
  (.reg [⟨.v 4, .p .mv, [.k (.m (.i .i64 0))], none⟩])
  (.seq
  (.seq
  (.reg [⟨.l 6, .p .mv, [.v 0], none⟩,
    ⟨.v 7, .p (.len false), [.l 6], none⟩,
    ⟨.v 8, .p .mv, [.k (.m (.i .i64 0))], none⟩])
  (.blk 0
  c60_L0))
  (.seq
  (.reg [⟨.v 4, .p .mv, [.k (.m (.i .i64 (-1)))], none⟩])
  .ret)))⟩

/- cellular/hood.Same -/
def c61 : F := ⟨2, [.t 4],
  (.seq
  (.reg [⟨.v 4, .p .mv, [.k (.m (.b false))], none⟩])
  (.seq
  (.reg [⟨.l 5, .p .mv, [.v 0], none⟩,
    ⟨.l 6, .p .mv, [.v 1], none⟩,
    ⟨.l 7, .l (.cal 103), [.l 5, .l 6], none⟩,
    ⟨.v 4, .p .mv, [.l 7], none⟩])
  .ret))⟩

/- slices.EqualFunc[[]cellular/api.Node,[]cellular/api.Node,cellular/api.Node,cellular/api.Node] -/
def c62_B0 : C :=
  (.seq
  (.reg [⟨.v 18, .p (.bin .lss), [.v 17, .v 16], none⟩])
  (.seq
  (.ite (.v 18)
    .skip
    (.ex 0))
  (.seq
  (.blk 1
  (.seq
  (.reg [⟨.l 19, .p .mv, [.v 17], none⟩,
    ⟨.l 20, .p (.ixa 2), [.v 15, .v 17], none⟩,
    ⟨.l 21, .r (.ld true 2), [.l 20], none⟩,
    ⟨.v 8, .l (.alp 8 [.m (.i .i64 0), .m (.nl 4)]), [], none⟩,
    ⟨.v 7, .p .mv, [.l 19], none⟩,
    ⟨.no, .l (.st 2), [.v 8, .l 21], none⟩])
  (.seq
  (.reg [⟨.l 22, .p .mv, [.v 1], none⟩,
    ⟨.l 23, .p .mv, [.v 7], none⟩,
    ⟨.l 24, .p (.ixa 2), [.l 22, .l 23], none⟩,
    ⟨.l 25, .r (.ld true 2), [.l 24], none⟩,
    ⟨.v 9, .l (.alp 9 [.m (.i .i64 0), .m (.nl 4)]), [], none⟩,
    ⟨.no, .l (.st 2), [.v 9, .l 25], none⟩])
  (.seq
  (.reg [⟨.l 26, .p .mv, [.v 2], none⟩,
    ⟨.l 27, .r (.ld true 2), [.v 8], none⟩,
    ⟨.l 28, .r (.ld true 2), [.v 9], none⟩,
    ⟨.l 29, .l .cav, [.l 26, .l 27, .l 28], none⟩,
    ⟨.v 30, .p (.un .not), [.l 29], none⟩])
  (.ite (.v 30)
    (.seq
    (.reg [⟨.v 6, .p .mv, [.k (.m (.b false))], none⟩])
    .ret)
    .skip)))))
  (.reg [⟨.l 31, .p (.bin .add), [.v 17, .k (.m (.i .i64 1))], none⟩,
    ⟨.v 17, .p .mv, [.l 31], none⟩]))))
def c62_L0 : C := .loop [0, 6, 7, 8, 9, 14, 18, 30] c62_B0
def c62 : F := ⟨3, [.t 6],
  (.seq
  (.reg [⟨.v 6, .p .mv, [.k (.m (.b false))], none⟩])
  (.seq
  (.seq
  (.reg [⟨.l 10, .p .mv, [.v 0], none⟩,
    ⟨.l 11, .p (.len false), [.l 10], none⟩,
    ⟨.l 12, .p .mv, [.v 1], none⟩,
    ⟨.l 13, .p (.len false), [.l 12], none⟩,
    ⟨.v 14, .p (.bin .neq), [.l 11, .l 13], none⟩])
  (.ite (.v 14)
    (.seq
    (.reg [⟨.v 6, .p .mv, [.k (.m (.b false))], none⟩])
    .ret)
    .skip))
  (.seq
  (.seq
  (.reg [⟨.v 15, .p .mv, [.v 0], none⟩,
    ⟨.v 16, .p (.len false), [.v 15], none⟩,
    ⟨.v 17, .p .mv, [.k (.m (.i .i64 0))], none⟩])
  (.blk 0
  c62_L0))
  (.seq
  (.reg [⟨.v 6, .p .mv, [.k (.m (.b true))], none⟩])
  .ret))))⟩

/- cellular/tree.Same$1 -/
def c63 : F := ⟨2, [.t 4],
  (.seq
  (.reg [⟨.v 2, .l (.bxp 2 2), [.v 0], none⟩,
    ⟨.v 3, .l (.bxp 3 2), [.v 1], none⟩,
    ⟨.v 4, .p .mv, [.k (.m (.b false))], none⟩])
  (.seq
  (.reg [⟨.l 5, .p (.fad 0), [.v 2], none⟩,
    ⟨.l 6, .r (.ld false 1), [.l 5], none⟩,
    ⟨.l 7, .p (.fad 0), [.v 3], none⟩,
    ⟨.l 8, .r (.ld false 1), [.l 7], none⟩,
    ⟨.l 9, .p (.bin .eql), [.l 6, .l 8], none⟩,
    ⟨.l 10, .p .mv, [.l 9], none⟩,
    ⟨.l 11, .p (.fad 1), [.v 2], some (.l 10, true)⟩,
    ⟨.l 12, .r (.ld false 1), [.l 11], some (.l 10, true)⟩,
    ⟨.l 13, .p (.fad 1), [.v 3], some (.l 10, true)⟩,
    ⟨.l 14, .r (.ld false 1), [.l 13], some (.l 10, true)⟩,
    ⟨.l 15, .l (.cal 64), [.l 12, .l 14], some (.l 10, true)⟩,
    ⟨.l 16, .p .pick, [.l 10, .l 15, .k (.m (.b false))], none⟩,
    ⟨.v 4, .p .mv, [.l 16], none⟩])
  .ret))⟩

/- slices.Equal[[]int,int] -/
def c64_B0 : C :=
  (.seq
  (.reg [⟨.v 14, .p (.bin .lss), [.v 13, .v 12], none⟩])
  (.seq
  (.ite (.v 14)
    .skip
    (.ex 0))
  (.seq
  (.blk 1
  (.seq
  (.reg [⟨.l 15, .p .mv, [.v 13], none⟩,
    ⟨.v 5, .p .mv, [.l 15], none⟩])
  (.seq
  (.reg [⟨.l 16, .p .mv, [.v 0], none⟩,
    ⟨.l 17, .p .mv, [.v 5], none⟩,
    ⟨.l 18, .p (.ixa 1), [.l 16, .l 17], none⟩,
    ⟨.l 19, .r (.ld false 1), [.l 18], none⟩,
    ⟨.l 20, .p .mv, [.v 1], none⟩,
    ⟨.l 21, .p .mv, [.v 5], none⟩,
    ⟨.l 22, .p (.ixa 1), [.l 20, .l 21], none⟩,
    ⟨.l 23, .r (.ld false 1), [.l 22], none⟩,
    ⟨.v 24, .p (.bin .neq), [.l 19, .l 23], none⟩])
  (.ite (.v 24)
    (.seq
    (.reg [⟨.v 4, .p .mv, [.k (.m (.b false))], none⟩])
    .ret)
    .skip))))
  (.reg [⟨.l 25, .p (.bin .add), [.v 13, .k (.m (.i .i64 1))], none⟩,
    ⟨.v 13, .p .mv, [.l 25], none⟩]))))
def c64_L0 : C := .loop [4, 5, 10, 14, 24] c64_B0
def c64 : F := ⟨2, [.t 4],
  (.seq
  (.reg [⟨.v 4, .p .mv, [.k (.m (.b false))], none⟩])
  (.seq
  (.seq
  (.reg [⟨.l 6, .p .mv, [.v 0], none⟩,
    ⟨.l 7, .p (.len false), [.l 6], none⟩,
    ⟨.l 8, .p .mv, [.v 1], none⟩,
    ⟨.l 9, .p (.len false), [.l 8], none⟩,
    ⟨.v 10, .p (.bin .neq), [.l 7, .l 9], none⟩])
  (.ite (.v 10)
    (.seq
    (.reg [⟨.v 4, .p .mv, [.k (.m (.b false))], none⟩])
    .ret)
    .skip))
  (.seq
  (.seq
  (.reg [⟨.l 11, .p .mv, [.v 0], none⟩,
    ⟨.v 12, .p (.len false), [.l 11], none⟩,
    ⟨.v 13, .p .mv, [.k (.m (.i .i64 0))], none⟩])
  (.blk 0
  c64_L0))
  (.seq
  (.reg [⟨.v 4, .p .mv, [.k (.m (.b true))], none⟩])
  .ret))))⟩

/- cellular/tree.Right -/
def c65_B0 : C :=
  (.seq
  (.reg [⟨.v 77, .p (.bin .lss), [.v 76, .v 75], none⟩])
  (.seq
  (.ite (.v 77)
    .skip
    (.ex 2))
  (.seq
  (.blk 3
  (.seq
  (.reg [⟨.l 78, .p (.ixa 1), [.v 74, .v 76], none⟩,
    ⟨.l 79, .r (.ld false 1), [.l 78], none⟩,
    ⟨.v 7, .p .mv, [.l 79], none⟩])
  (.seq
  (.reg [⟨.l 80, .p .mv, [.v 7], none⟩,
    ⟨.l 81, .p (.bin .lss), [.l 80, .k (.m (.i .i64 0))], none⟩,
    ⟨.l 82, .p .mv, [.l 81], none⟩,
    ⟨.l 83, .p (.fad 0), [.v 5], some (.l 82, false)⟩,
    ⟨.l 84, .r (.ld false 1), [.l 83], some (.l 82, false)⟩,
    ⟨.l 85, .p (.bin .eql), [.l 84, .k (.m (.i .i64 1))], some (.l 82, false)⟩,
    ⟨.l 86, .p .mv, [.l 85], some (.l 82, false)⟩,
    ⟨.l 87, .p .mv, [.v 7], some (.l 86, true)⟩,
    ⟨.l 88, .p (.fad 0), [.v 1], some (.l 86, true)⟩,
    ⟨.l 89, .r (.ld false 1), [.l 88], some (.l 86, true)⟩,
    ⟨.l 90, .p (.bin .geq), [.l 87, .l 89], some (.l 86, true)⟩,
    ⟨.l 91, .p .pick, [.l 86, .l 90, .k (.m (.b false))], some (.l 82, false)⟩,
    ⟨.l 92, .p .pick, [.l 82, .k (.m (.b true)), .l 91], none⟩,
    ⟨.l 93, .p .mv, [.l 92], none⟩,
    ⟨.l 94, .p (.fad 0), [.v 5], some (.l 93, false)⟩,
    ⟨.l 95, .r (.ld false 1), [.l 94], some (.l 93, false)⟩,
    ⟨.l 96, .p (.bin .gtr), [.l 95, .k (.m (.i .i64 1))], some (.l 93, false)⟩,
    ⟨.l 97, .p .mv, [.l 96], some (.l 93, false)⟩,
    ⟨.l 98, .p .mv, [.v 7], some (.l 97, true)⟩,
    ⟨.l 99, .p .mv, [.v 4], some (.l 97, true)⟩,
    ⟨.l 100, .p (.bin .geq), [.l 98, .l 99], some (.l 97, true)⟩,
    ⟨.l 101, .p .mv, [.l 100], some (.l 97, true)⟩,
    ⟨.l 102, .p (.fad 2), [.v 1], some (.l 101, false)⟩,
    ⟨.l 103, .r (.ld false 1), [.l 102], some (.l 101, false)⟩,
    ⟨.l 104, .p .mv, [.v 7], some (.l 101, false)⟩,
    ⟨.l 105, .p (.ixa 2), [.l 103, .l 104], some (.l 101, false)⟩,
    ⟨.l 106, .p (.fad 0), [.l 105], some (.l 101, false)⟩,
    ⟨.l 107, .r (.ld false 1), [.l 106], some (.l 101, false)⟩,
    ⟨.l 108, .p (.fad 0), [.v 5], some (.l 101, false)⟩,
    ⟨.l 109, .r (.ld false 1), [.l 108], some (.l 101, false)⟩,
    ⟨.l 110, .p (.bin .sub), [.l 109, .k (.m (.i .i64 1))], some (.l 101, false)⟩,
    ⟨.l 111, .p (.bin .neq), [.l 107, .l 110], some (.l 101, false)⟩,
    ⟨.l 112, .p .pick, [.l 101, .k (.m (.b true)), .l 111], some (.l 97, true)⟩,
    ⟨.l 113, .p .pick, [.l 97, .l 112, .k (.m (.b false))], some (.l 93, false)⟩,
    ⟨.v 114, .p .pick, [.l 93, .k (.m (.b true)), .l 113], none⟩])
  (.ite (.v 114)
    (.seq
    (.reg [⟨.v 2, .p .mv, [.k (.m (.b false))], none⟩])
    .ret)
    .skip))))
  (.reg [⟨.l 115, .p (.bin .add), [.v 76, .k (.m (.i .i64 1))], none⟩,
    ⟨.v 76, .p .mv, [.l 115], none⟩]))))
def c65_L0 : C := .loop [7, 50, 72, 77, 114] c65_B0
def c65_B1 : C :=
  (.seq
  (.reg [⟨.v 50, .p (.bin .lss), [.v 49, .v 48], none⟩])
  (.seq
  (.ite (.v 50)
    .skip
    (.ex 0))
  (.seq
  (.blk 1
  (.seq
  (.reg [⟨.l 51, .p .mv, [.v 49], none⟩,
    ⟨.l 52, .p (.ixa 2), [.v 47, .v 49], none⟩,
    ⟨.l 53, .r (.ld true 2), [.l 52], none⟩,
    ⟨.v 5, .l (.alp 5 [.m (.i .i64 0), .m (.nl 4)]), [], none⟩,
    ⟨.v 4, .p .mv, [.l 51], none⟩,
    ⟨.no, .l (.st 2), [.v 5, .l 53], none⟩])
  (.seq
  (.seq
  (.reg [⟨.l 54, .p (.fad 0), [.v 5], none⟩,
    ⟨.l 55, .r (.ld false 1), [.l 54], none⟩,
    ⟨.l 56, .p (.bin .lss), [.l 55, .k (.m (.i .i64 1))], none⟩,
    ⟨.l 57, .p .mv, [.l 56], none⟩,
    ⟨.l 58, .p (.fad 0), [.v 5], some (.l 57, false)⟩,
    ⟨.l 59, .r (.ld false 1), [.l 58], some (.l 57, false)⟩,
    ⟨.l 60, .p (.fad 1), [.v 1], some (.l 57, false)⟩,
    ⟨.l 61, .r (.ld false 1), [.l 60], some (.l 57, false)⟩,
    ⟨.l 62, .p (.len false), [.l 61], some (.l 57, false)⟩,
    ⟨.l 63, .p (.bin .gtr), [.l 59, .l 62], some (.l 57, false)⟩,
    ⟨.l 64, .p .pick, [.l 57, .k (.m (.b true)), .l 63], none⟩,
    ⟨.l 65, .p .mv, [.l 64], none⟩,
    ⟨.l 66, .p (.fad 1), [.v 5], some (.l 65, false)⟩,
    ⟨.l 67, .r (.ld false 1), [.l 66], some (.l 65, false)⟩,
    ⟨.l 68, .p (.len false), [.l 67], some (.l 65, false)⟩,
    ⟨.l 69, .p (.fad 0), [.v 1], some (.l 65, false)⟩,
    ⟨.l 70, .r (.ld false 1), [.l 69], some (.l 65, false)⟩,
    ⟨.l 71, .p (.bin .neq), [.l 68, .l 70], some (.l 65, false)⟩,
    ⟨.v 72, .p .pick, [.l 65, .k (.m (.b true)), .l 71], none⟩])
  (.ite (.v 72)
    (.seq
    (.reg [⟨.v 2, .p .mv, [.k (.m (.b false))], none⟩])
    .ret)
    .skip))
  (.seq
  (.reg [⟨.l 73, .p (.fad 1), [.v 5], none⟩,
    ⟨.v 74, .r (.ld false 1), [.l 73], none⟩,
    ⟨.v 75, .p (.len false), [.v 74], none⟩,
    ⟨.v 76, .p .mv, [.k (.m (.i .i64 0))], none⟩])
  (.blk 2
  c65_L0)))))
  (.reg [⟨.l 116, .p (.bin .add), [.v 49, .k (.m (.i .i64 1))], none⟩,
    ⟨.v 49, .p .mv, [.l 116], none⟩]))))
def c65_L1 : C := .loop [0, 2, 3, 4, 5, 45, 74, 75, 76, 77] c65_B1
def c65 : F := ⟨1, [.t 2],
  (.seq
  (.reg [⟨.v 1, .l (.bxp 1 3), [.v 0], none⟩,
    ⟨.v 2, .p .mv, [.k (.m (.b false))], none⟩])
  (.seq
  (.reg [⟨.l 8, .p (.fad 2), [.v 1], none⟩,
    ⟨.l 9, .r (.ld false 1), [.l 8], none⟩,
    ⟨.l 10, .p (.len false), [.l 9], none⟩,
    ⟨.v 3, .p .mv, [.l 10], none⟩])
  (.seq
  (.seq
  (.reg [⟨.l 11, .p (.fad 0), [.v 1], none⟩,
    ⟨.l 12, .r (.ld false 1), [.l 11], none⟩,
    ⟨.l 13, .p (.bin .lss), [.l 12, .k (.m (.i .i64 2))], none⟩,
    ⟨.l 14, .p .mv, [.l 13], none⟩,
    ⟨.l 15, .p (.fad 0), [.v 1], some (.l 14, false)⟩,
    ⟨.l 16, .r (.ld false 1), [.l 15], some (.l 14, false)⟩,
    ⟨.l 17, .p (.bin .gtr), [.l 16, .k (.m (.i .i64 8))], some (.l 14, false)⟩,
    ⟨.l 18, .p .pick, [.l 14, .k (.m (.b true)), .l 17], none⟩,
    ⟨.l 19, .p .mv, [.l 18], none⟩,
    ⟨.l 20, .p (.fad 1), [.v 1], some (.l 19, false)⟩,
    ⟨.l 21, .r (.ld false 1), [.l 20], some (.l 19, false)⟩,
    ⟨.l 22, .l (.cal 29), [.l 21], some (.l 19, false)⟩,
    ⟨.l 23, .p (.un .not), [.l 22], some (.l 19, false)⟩,
    ⟨.l 24, .p .pick, [.l 19, .k (.m (.b true)), .l 23], none⟩,
    ⟨.l 25, .p .mv, [.l 24], none⟩,
    ⟨.l 26, .p .mv, [.v 3], some (.l 25, false)⟩,
    ⟨.l 27, .p (.bin .lss), [.l 26, .k (.m (.i .i64 1))], some (.l 25, false)⟩,
    ⟨.l 28, .p .pick, [.l 25, .k (.m (.b true)), .l 27], none⟩,
    ⟨.l 29, .p .mv, [.l 28], none⟩,
    ⟨.l 30, .p .mv, [.v 3], some (.l 29, false)⟩,
    ⟨.l 31, .p (.bin .gtr), [.l 30, .k (.m (.i .i64 4096))], some (.l 29, false)⟩,
    ⟨.l 32, .p .pick, [.l 29, .k (.m (.b true)), .l 31], none⟩,
    ⟨.l 33, .p .mv, [.l 32], none⟩,
    ⟨.l 34, .p (.fad 2), [.v 1], some (.l 33, false)⟩,
    ⟨.l 35, .r (.ld false 1), [.l 34], some (.l 33, false)⟩,
    ⟨.l 36, .p .mv, [.v 3], some (.l 33, false)⟩,
    ⟨.l 37, .p (.bin .sub), [.l 36, .k (.m (.i .i64 1))], some (.l 33, false)⟩,
    ⟨.l 38, .p (.ixa 2), [.l 35, .l 37], some (.l 33, false)⟩,
    ⟨.l 39, .p (.fad 0), [.l 38], some (.l 33, false)⟩,
    ⟨.l 40, .r (.ld false 1), [.l 39], some (.l 33, false)⟩,
    ⟨.l 41, .p (.fad 1), [.v 1], some (.l 33, false)⟩,
    ⟨.l 42, .r (.ld false 1), [.l 41], some (.l 33, false)⟩,
    ⟨.l 43, .p (.len false), [.l 42], some (.l 33, false)⟩,
    ⟨.l 44, .p (.bin .neq), [.l 40, .l 43], some (.l 33, false)⟩,
    ⟨.v 45, .p .pick, [.l 33, .k (.m (.b true)), .l 44], none⟩])
  (.ite (.v 45)
    (.seq
    (.reg [⟨.v 2, .p .mv, [.k (.m (.b false))], none⟩])
    .ret)
    .skip))
  (.seq
  (.seq
  (.reg [⟨.l 46, .p (.fad 2), [.v 1], none⟩,
    ⟨.v 47, .r (.ld false 1), [.l 46], none⟩,
    ⟨.v 48, .p (.len false), [.v 47], none⟩,
    ⟨.v 49, .p .mv, [.k (.m (.i .i64 0))], none⟩])
  (.blk 0
  c65_L1))
  (.seq
  (.reg [⟨.v 2, .p .mv, [.k (.m (.b true))], none⟩])
  .ret)))))⟩

/- cellular/reduce.rebuilt -/
def c66_B0 : C :=
  (.seq
  (.reg [⟨.v 27, .p (.bin .lss), [.v 26, .v 25], none⟩])
  (.seq
  (.ite (.v 27)
    .skip
    (.ex 2))
  (.seq
  (.blk 3
  (.seq
  (.reg [⟨.l 28, .p .mv, [.v 26], none⟩,
    ⟨.l 29, .p (.ixa 1), [.v 24, .v 26], none⟩,
    ⟨.l 30, .r (.ld false 1), [.l 29], none⟩,
    ⟨.v 10, .p .mv, [.l 28], none⟩,
    ⟨.v 11, .p .mv, [.l 30], none⟩])
  (.seq
  (.reg [⟨.l 31, .p (.fad 0), [.v 8], none⟩,
    ⟨.l 32, .r (.ld false 1), [.l 31], none⟩,
    ⟨.v 33, .p (.bin .gtr), [.l 32, .k (.m (.i .i64 1))], none⟩])
  (.ite (.v 33)
    (.reg [⟨.l 34, .p .mv, [.v 9], none⟩,
      ⟨.l 35, .p .mv, [.v 10], none⟩,
      ⟨.l 36, .p .mv, [.v 6], none⟩,
      ⟨.l 37, .p .mv, [.v 11], none⟩,
      ⟨.l 38, .p (.ixa 1), [.l 36, .l 37], none⟩,
      ⟨.l 39, .r (.ld false 1), [.l 38], none⟩,
      ⟨.l 40, .p (.ixa 1), [.l 34, .l 35], none⟩,
      ⟨.no, .l (.st 1), [.l 40, .l 39], none⟩])
    .skip))))
  (.reg [⟨.l 41, .p (.bin .add), [.v 26, .k (.m (.i .i64 1))], none⟩,
    ⟨.v 26, .p .mv, [.l 41], none⟩]))))
def c66_L0 : C := .loop [10, 11, 18, 27, 33] c66_B0
def c66_B1 : C :=
  (.seq
  (.reg [⟨.v 18, .p (.bin .lss), [.v 17, .v 16], none⟩])
  (.seq
  (.ite (.v 18)
    .skip
    (.ex 0))
  (.seq
  (.blk 1
  (.seq
  (.reg [⟨.l 19, .p (.ixa 2), [.v 15, .v 17], none⟩,
    ⟨.l 20, .r (.ld true 2), [.l 19], none⟩,
    ⟨.v 8, .l (.alp 8 [.m (.i .i64 0), .m (.nl 4)]), [], none⟩,
    ⟨.no, .l (.st 2), [.v 8, .l 20], none⟩])
  (.seq
  (.reg [⟨.l 21, .p (.fad 1), [.v 8], none⟩,
    ⟨.l 22, .r (.ld false 1), [.l 21], none⟩,
    ⟨.l 23, .l (.cal 104), [.l 22], none⟩,
    ⟨.v 9, .p .mv, [.l 23], none⟩])
  (.seq
  (.seq
  (.reg [⟨.v 24, .p .mv, [.v 9], none⟩,
    ⟨.v 25, .p (.len false), [.v 24], none⟩,
    ⟨.v 26, .p .mv, [.k (.m (.i .i64 0))], none⟩])
  (.blk 2
  c66_L0))
  (.reg [⟨.l 42, .p .mv, [.v 6], none⟩,
    ⟨.l 43, .p (.fad 0), [.v 8], none⟩,
    ⟨.l 44, .r (.ldb false 1), [.l 43], none⟩,
    ⟨.l 45, .p .mv, [.v 1], none⟩,
    ⟨.l 46, .p (.fad 0), [.v 8], none⟩,
    ⟨.l 47, .r (.ld false 1), [.l 46], none⟩,
    ⟨.l 48, .p .mv, [.v 9], none⟩,
    ⟨.l 49, .l .cav, [.l 45, .l 47, .l 48], none⟩,
    ⟨.l 50, .l (.cal 105), [.v 5, .l 44, .l 49], none⟩,
    ⟨.l 51, .p (.bsl 1 [.m (.i .i64 0)] 1 [0]), [.l 50], none⟩,
    ⟨.l 52, .l (.app 3 1 8), [.l 42, .l 51], none⟩,
    ⟨.v 6, .p .mv, [.l 52], none⟩])))))
  (.reg [⟨.l 53, .p (.bin .add), [.v 17, .k (.m (.i .i64 1))], none⟩,
    ⟨.v 17, .p .mv, [.l 53], none⟩]))))
def c66_L1 : C := .loop [0, 8, 9, 24, 25, 26, 27] c66_B1
def c66 : F := ⟨2, [.c 4 3 true],
  (.seq
  (.reg [⟨.v 2, .l (.bxp 2 3), [.v 0], none⟩,
    ⟨.v 4, .l (.alp 4 [.m (.i .i64 0), .m (.nl 4), .m (.nl 4)]), [], none⟩])
  (.seq
  (.reg [⟨.l 12, .l .mkm, [], none⟩,
    ⟨.l 13, .p (.build [.m (.nl 4), .m (.nl 1)] [(1, 1)]), [.l 12], none⟩,
    ⟨.v 5, .l (.als 140 2 1 [.m (.nl 4), .m (.nl 1)]), [], none⟩,
    ⟨.no, .l (.st 2), [.v 5, .l 13], none⟩])
  (.seq
  (.reg [⟨.v 6, .p .mv, [.k (.m (.nl 4))], none⟩])
  (.seq
  (.seq
  (.reg [⟨.l 14, .p (.fad 2), [.v 2], none⟩,
    ⟨.v 15, .r (.ld false 1), [.l 14], none⟩,
    ⟨.v 16, .p (.len false), [.v 15], none⟩,
    ⟨.v 17, .p .mv, [.k (.m (.i .i64 0))], none⟩])
  (.blk 0
  c66_L1))
  (.seq
  (.reg [⟨.l 54, .p (.fad 0), [.v 2], none⟩,
    ⟨.l 55, .r (.ldb false 1), [.l 54], none⟩,
    ⟨.l 56, .p (.fad 1), [.v 2], none⟩,
    ⟨.l 57, .r (.ld false 1), [.l 56], none⟩,
    ⟨.l 59, .p (.fad 0), [.v 5], none⟩,
    ⟨.l 60, .r (.ld false 1), [.l 59], none⟩,
    ⟨.l 61, .p .mv, [.v 6], none⟩,
    ⟨.l 62, .p .mv, [.v 6], none⟩,
    ⟨.l 63, .p (.len false), [.l 62], none⟩,
    ⟨.l 64, .p (.bin .sub), [.l 63, .k (.m (.i .i64 1))], none⟩,
    ⟨.l 65, .p (.ixa 1), [.l 61, .l 64], none⟩,
    ⟨.l 66, .r (.ld false 1), [.l 65], none⟩,
    ⟨.l 58, .l (.cal 106), [.l 57], none⟩,
    ⟨.l 67, .l (.cal 107), [.l 60, .l 66], none⟩,
    ⟨.l 68, .p (.build [.m (.i .i64 0), .m (.nl 4), .m (.nl 4)] [(0, 1), (1, 1), (2, 1)]), [.l 55, .l 58, .l 67], none⟩,
    ⟨.no, .l (.st 3), [.v 4, .l 68], none⟩])
  .ret)))))⟩

/- cellular/reduce.Reduce$1 -/
def c67 : F := ⟨2, [.t 4],
  (.seq
  (.reg [⟨.v 4, .p .mv, [.k (.m (.nl 4))], none⟩])
  (.seq
  (.reg [⟨.l 5, .p .mv, [.v 1], none⟩,
    ⟨.v 4, .p .mv, [.l 5], none⟩])
  .ret))⟩

/- cellular/tree.value -/
def c71_B0 : C :=
  (.seq
  (.reg [⟨.v 15, .p (.bin .lss), [.v 14, .v 13], none⟩])
  (.seq
  (.ite (.v 15)
    .skip
    (.ex 0))
  (.seq
  (.blk 1
  (.seq
  (.reg [⟨.l 16, .p (.ixa 1), [.v 12, .v 14], none⟩,
    ⟨.l 17, .r (.ld false 1), [.l 16], none⟩,
    ⟨.v 7, .p .mv, [.l 17], none⟩])
  (.reg [⟨.l 18, .p (.fad 2), [.v 2], none⟩,
    ⟨.l 19, .r (.ld false 1), [.l 18], none⟩,
    ⟨.l 20, .p .mv, [.v 5], none⟩,
    ⟨.l 21, .p (.ixa 2), [.l 19, .l 20], none⟩,
    ⟨.l 22, .p (.fad 1), [.l 21], none⟩,
    ⟨.l 23, .r (.ld false 1), [.l 22], none⟩,
    ⟨.l 24, .p .mv, [.v 7], none⟩,
    ⟨.l 25, .p (.ixa 1), [.l 23, .l 24], none⟩,
    ⟨.l 26, .r (.ld false 1), [.l 25], none⟩,
    ⟨.v 5, .p .mv, [.l 26], none⟩])))
  (.reg [⟨.l 27, .p (.bin .add), [.v 14, .k (.m (.i .i64 1))], none⟩,
    ⟨.v 14, .p .mv, [.l 27], none⟩]))))
def c71_L0 : C := .loop [0, 1, 4, 7, 15] c71_B0
def c71 : F := ⟨2, [.t 4],
  (.seq
  (.reg [⟨.v 2, .l (.bxp 2 3), [.v 0], none⟩,
    ⟨.v 4, .p .mv, [.k (.m (.i .i64 0))], none⟩])
  (.seq
  (.reg [⟨.l 8, .p (.fad 2), [.v 2], none⟩,
    ⟨.l 9, .r (.ld false 1), [.l 8], none⟩,
    ⟨.l 10, .p (.len false), [.l 9], none⟩,
    ⟨.l 11, .p (.bin .sub), [.l 10, .k (.m (.i .i64 1))], none⟩,
    ⟨.v 5, .p .mv, [.l 11], none⟩])
  (.seq
  (.seq
  (.reg [⟨.v 12, .p .mv, [.v 1], none⟩,
    ⟨.v 13, .p (.len false), [.v 12], none⟩,
    ⟨.v 14, .p .mv, [.k (.m (.i .i64 0))], none⟩])
  (.blk 0
  c71_L0))
  (.seq
  (.reg [⟨.l 28, .p .mv, [.v 5], none⟩,
    ⟨.v 4, .p .mv, [.l 28], none⟩])
  .ret))))⟩

/- slices.IndexFunc[[]cellular/api.Frame,cellular/api.Frame] -/
def c72_B0 : C :=
  (.seq
  (.reg [⟨.v 9, .p (.bin .lss), [.v 8, .v 7], none⟩])
  (.seq
  (.ite (.v 9)
    .skip
    (.ex 0))
  (.seq
  (.blk 1
  (.seq
  (.reg [⟨.l 10, .p .mv, [.v 8], none⟩,
    ⟨.v 5, .p .mv, [.l 10], none⟩])
  (.seq
  (.reg [⟨.l 11, .p .mv, [.v 1], none⟩,
    ⟨.l 12, .p .mv, [.v 0], none⟩,
    ⟨.l 13, .p .mv, [.v 5], none⟩,
    ⟨.l 14, .p (.ixa 4), [.l 12, .l 13], none⟩,
    ⟨.l 15, .r (.ld true 4), [.l 14], none⟩,
    ⟨.v 16, .l .cav, [.l 11, .l 15], none⟩])
  (.ite (.v 16)
    (.seq
    (.reg [⟨.l 17, .p .mv, [.v 5], none⟩,
      ⟨.v 4, .p .mv, [.l 17], none⟩])
    .ret)
    .skip))))
  (.reg [⟨.l 18, .p (.bin .add), [.v 8, .k (.m (.i .i64 1))], none⟩,
    ⟨.v 8, .p .mv, [.l 18], none⟩]))))
def c72_L0 : C := .loop [4, 5, 9, 16] c72_B0
def c72 : F := ⟨2, [.t 4],
  (.seq
  (.reg [⟨.v 4, .p .mv, [.k (.m (.i .i64 0))], none⟩])
  (.seq
  (.seq
  (.reg [⟨.l 6, .p .mv, [.v 0], none⟩,
    ⟨.v 7, .p (.len false), [.l 6], none⟩,
    ⟨.v 8, .p .mv, [.k (.m (.i .i64 0))], none⟩])
  (.blk 0
  c72_L0))
  (.seq
  (.reg [⟨.v 4, .p .mv, [.k (.m (.i .i64 (-1)))], none⟩])
  .ret)))⟩

/- cellular/pattern.Right -/
def c73_B0 : C :=
  (.seq
  (.reg [⟨.v 11, .p (.bin .lss), [.v 10, .v 9], none⟩])
  (.seq
  (.ite (.v 11)
    .skip
    (.ex 0))
  (.seq
  (.blk 1
  (.seq
  (.reg [⟨.l 12, .p .mv, [.v 10], none⟩,
    ⟨.l 13, .p (.ixa 3), [.v 8, .v 10], none⟩,
    ⟨.l 14, .r (.ld true 3), [.l 13], none⟩,
    ⟨.v 4, .l (.alp 4 [.m (.i .i64 0), .m (.i .i64 0), .m (.i .i64 0)]), [], none⟩,
    ⟨.v 3, .p .mv, [.l 12], none⟩,
    ⟨.no, .l (.st 3), [.v 4, .l 14], none⟩])
  (.seq
  (.reg [⟨.l 15, .r (.ld true 3), [.v 4], none⟩,
    ⟨.l 16, .l (.cal 110), [.l 15], none⟩,
    ⟨.l 17, .l (.cal 109), [.l 16], none⟩,
    ⟨.l 18, .p (.un .not), [.l 17], none⟩,
    ⟨.l 19, .p .mv, [.l 18], none⟩,
    ⟨.l 20, .p (.fad 2), [.v 4], some (.l 19, false)⟩,
    ⟨.l 21, .r (.ld false 1), [.l 20], some (.l 19, false)⟩,
    ⟨.l 22, .p (.bin .lss), [.l 21, .k (.m (.i .i64 1))], some (.l 19, false)⟩,
    ⟨.l 23, .p .pick, [.l 19, .k (.m (.b true)), .l 22], none⟩,
    ⟨.l 24, .p .mv, [.l 23], none⟩,
    ⟨.l 25, .p (.fad 2), [.v 4], some (.l 24, false)⟩,
    ⟨.l 26, .r (.ld false 1), [.l 25], some (.l 24, false)⟩,
    ⟨.l 27, .p (.bin .geq), [.l 26, .k (.m (.i .i64 8))], some (.l 24, false)⟩,
    ⟨.l 28, .p .pick, [.l 24, .k (.m (.b true)), .l 27], none⟩,
    ⟨.l 29, .p .mv, [.l 28], none⟩,
    ⟨.l 30, .p .mv, [.v 3], some (.l 29, false)⟩,
    ⟨.l 31, .p (.bin .gtr), [.l 30, .k (.m (.i .i64 0))], some (.l 29, false)⟩,
    ⟨.l 32, .p .mv, [.l 31], some (.l 29, false)⟩,
    ⟨.l 33, .p .mv, [.v 0], some (.l 32, true)⟩,
    ⟨.l 34, .p .mv, [.v 3], some (.l 32, true)⟩,
    ⟨.l 35, .p (.bin .sub), [.l 34, .k (.m (.i .i64 1))], some (.l 32, true)⟩,
    ⟨.l 36, .p (.ixa 3), [.l 33, .l 35], some (.l 32, true)⟩,
    ⟨.l 37, .r (.ld true 3), [.l 36], some (.l 32, true)⟩,
    ⟨.l 38, .r (.ld true 3), [.v 4], some (.l 32, true)⟩,
    ⟨.l 39, .l (.cal 111), [.l 37, .l 38], some (.l 32, true)⟩,
    ⟨.l 40, .p (.bin .geq), [.l 39, .k (.m (.i .i64 0))], some (.l 32, true)⟩,
    ⟨.l 41, .p .pick, [.l 32, .l 40, .k (.m (.b false))], some (.l 29, false)⟩,
    ⟨.v 42, .p .pick, [.l 29, .k (.m (.b true)), .l 41], none⟩])
  (.ite (.v 42)
    (.seq
    (.reg [⟨.v 2, .p .mv, [.k (.m (.b false))], none⟩])
    .ret)
    .skip))))
  (.reg [⟨.l 43, .p (.bin .add), [.v 10, .k (.m (.i .i64 1))], none⟩,
    ⟨.v 10, .p .mv, [.l 43], none⟩]))))
def c73_L0 : C := .loop [2, 3, 4, 7, 11, 42] c73_B0
def c73 : F := ⟨1, [.t 2],
  (.seq
  (.reg [⟨.v 2, .p .mv, [.k (.m (.b false))], none⟩])
  (.seq
  (.seq
  (.reg [⟨.l 5, .p .mv, [.v 0], none⟩,
    ⟨.l 6, .p (.len false), [.l 5], none⟩,
    ⟨.v 7, .p (.bin .gtr), [.l 6, .k (.m (.i .i64 5000))], none⟩])
  (.ite (.v 7)
    (.seq
    (.reg [⟨.v 2, .p .mv, [.k (.m (.b false))], none⟩])
    .ret)
    .skip))
  (.seq
  (.seq
  (.reg [⟨.v 8, .p .mv, [.v 0], none⟩,
    ⟨.v 9, .p (.len false), [.v 8], none⟩,
    ⟨.v 10, .p .mv, [.k (.m (.i .i64 0))], none⟩])
  (.blk 0
  c73_L0))
  (.seq
  (.reg [⟨.v 2, .p .mv, [.k (.m (.b true))], none⟩])
  .ret))))⟩

/- cellular/delta.Right -/
def c74_B0 : C :=
  (.seq
  (.reg [⟨.v 11, .p (.bin .lss), [.v 10, .v 9], none⟩])
  (.seq
  (.ite (.v 11)
    .skip
    (.ex 0))
  (.seq
  (.blk 1
  (.seq
  (.reg [⟨.l 12, .p .mv, [.v 10], none⟩,
    ⟨.l 13, .p (.ixa 4), [.v 8, .v 10], none⟩,
    ⟨.l 14, .r (.ld true 4), [.l 13], none⟩,
    ⟨.v 4, .l (.alp 4 [.m (.i .i64 0), .m (.i .i64 0), .m (.i .i64 0), .m (.i .i64 0)]), [], none⟩,
    ⟨.v 3, .p .mv, [.l 12], none⟩,
    ⟨.no, .l (.st 4), [.v 4, .l 14], none⟩])
  (.seq
  (.reg [⟨.l 15, .p (.fad 0), [.v 4], none⟩,
    ⟨.l 16, .r (.ld false 1), [.l 15], none⟩,
    ⟨.l 17, .p (.fad 1), [.v 4], none⟩,
    ⟨.l 18, .r (.ld false 1), [.l 17], none⟩,
    ⟨.l 19, .p (.mm true), [.l 16, .l 18], none⟩,
    ⟨.l 20, .p (.bin .gtr), [.l 19, .k (.m (.i .i64 1048576))], none⟩,
    ⟨.l 21, .p .mv, [.l 20], none⟩,
    ⟨.l 22, .p (.fad 0), [.v 4], some (.l 21, false)⟩,
    ⟨.l 23, .r (.ld false 1), [.l 22], some (.l 21, false)⟩,
    ⟨.l 24, .p (.fad 1), [.v 4], some (.l 21, false)⟩,
    ⟨.l 25, .r (.ld false 1), [.l 24], some (.l 21, false)⟩,
    ⟨.l 26, .p (.mm false), [.l 23, .l 25], some (.l 21, false)⟩,
    ⟨.l 27, .p (.bin .lss), [.l 26, .k (.m (.i .i64 (-1048576)))], some (.l 21, false)⟩,
    ⟨.l 28, .p .pick, [.l 21, .k (.m (.b true)), .l 27], none⟩,
    ⟨.l 29, .p .mv, [.l 28], none⟩,
    ⟨.l 30, .p (.fad 2), [.v 4], some (.l 29, false)⟩,
    ⟨.l 31, .r (.ld false 1), [.l 30], some (.l 29, false)⟩,
    ⟨.l 32, .l (.cal 112), [.l 31], some (.l 29, false)⟩,
    ⟨.l 33, .p (.un .not), [.l 32], some (.l 29, false)⟩,
    ⟨.l 34, .p .pick, [.l 29, .k (.m (.b true)), .l 33], none⟩,
    ⟨.l 35, .p .mv, [.l 34], none⟩,
    ⟨.l 36, .p (.fad 3), [.v 4], some (.l 35, false)⟩,
    ⟨.l 37, .r (.ld false 1), [.l 36], some (.l 35, false)⟩,
    ⟨.l 38, .l (.cal 112), [.l 37], some (.l 35, false)⟩,
    ⟨.l 39, .p (.un .not), [.l 38], some (.l 35, false)⟩,
    ⟨.l 40, .p .pick, [.l 35, .k (.m (.b true)), .l 39], none⟩,
    ⟨.l 41, .p .mv, [.l 40], none⟩,
    ⟨.l 42, .p (.fad 2), [.v 4], some (.l 41, false)⟩,
    ⟨.l 43, .r (.ld false 1), [.l 42], some (.l 41, false)⟩,
    ⟨.l 44, .p (.fad 3), [.v 4], some (.l 41, false)⟩,
    ⟨.l 45, .r (.ld false 1), [.l 44], some (.l 41, false)⟩,
    ⟨.l 46, .p (.bin .eql), [.l 43, .l 45], some (.l 41, false)⟩,
    ⟨.l 47, .p .pick, [.l 41, .k (.m (.b true)), .l 46], none⟩,
    ⟨.l 48, .p .mv, [.l 47], none⟩,
    ⟨.l 49, .p .mv, [.v 3], some (.l 48, false)⟩,
    ⟨.l 50, .p (.bin .gtr), [.l 49, .k (.m (.i .i64 0))], some (.l 48, false)⟩,
    ⟨.l 51, .p .mv, [.l 50], some (.l 48, false)⟩,
    ⟨.l 52, .p .mv, [.v 0], some (.l 51, true)⟩,
    ⟨.l 53, .p .mv, [.v 3], some (.l 51, true)⟩,
    ⟨.l 54, .p (.bin .sub), [.l 53, .k (.m (.i .i64 1))], some (.l 51, true)⟩,
    ⟨.l 55, .p (.ixa 4), [.l 52, .l 54], some (.l 51, true)⟩,
    ⟨.l 56, .r (.ld true 4), [.l 55], some (.l 51, true)⟩,
    ⟨.l 57, .r (.ld true 4), [.v 4], some (.l 51, true)⟩,
    ⟨.l 58, .l (.cal 113), [.l 56, .l 57], some (.l 51, true)⟩,
    ⟨.l 59, .p (.bin .geq), [.l 58, .k (.m (.i .i64 0))], some (.l 51, true)⟩,
    ⟨.l 60, .p .pick, [.l 51, .l 59, .k (.m (.b false))], some (.l 48, false)⟩,
    ⟨.v 61, .p .pick, [.l 48, .k (.m (.b true)), .l 60], none⟩])
  (.ite (.v 61)
    (.seq
    (.reg [⟨.v 2, .p .mv, [.k (.m (.b false))], none⟩])
    .ret)
    .skip))))
  (.reg [⟨.l 62, .p (.bin .add), [.v 10, .k (.m (.i .i64 1))], none⟩,
    ⟨.v 10, .p .mv, [.l 62], none⟩]))))
def c74_L0 : C := .loop [2, 3, 4, 7, 11, 61] c74_B0
def c74 : F := ⟨1, [.t 2],
  (.seq
  (.reg [⟨.v 2, .p .mv, [.k (.m (.b false))], none⟩])
  (.seq
  (.seq
  (.reg [⟨.l 5, .p .mv, [.v 0], none⟩,
    ⟨.l 6, .p (.len false), [.l 5], none⟩,
    ⟨.v 7, .p (.bin .gtr), [.l 6, .k (.m (.i .i64 10000))], none⟩])
  (.ite (.v 7)
    (.seq
    (.reg [⟨.v 2, .p .mv, [.k (.m (.b false))], none⟩])
    .ret)
    .skip))
  (.seq
  (.seq
  (.reg [⟨.v 8, .p .mv, [.v 0], none⟩,
    ⟨.v 9, .p (.len false), [.v 8], none⟩,
    ⟨.v 10, .p .mv, [.k (.m (.i .i64 0))], none⟩])
  (.blk 0
  c74_L0))
  (.seq
  (.reg [⟨.v 2, .p .mv, [.k (.m (.b true))], none⟩])
  .ret))))⟩

/- cellular/delta.Apply -/
def c75_B0 : C :=
  (.seq
  (.reg [⟨.v 25, .p (.bin .lss), [.v 24, .v 23], none⟩])
  (.seq
  (.ite (.v 25)
    .skip
    (.ex 0))
  (.seq
  (.blk 1
  (.seq
  (.reg [⟨.l 26, .p (.ixa 4), [.v 22, .v 24], none⟩,
    ⟨.l 27, .r (.ld true 4), [.l 26], none⟩,
    ⟨.v 8, .l (.alp 8 [.m (.i .i64 0), .m (.i .i64 0), .m (.i .i64 0), .m (.i .i64 0)]), [], none⟩,
    ⟨.no, .l (.st 4), [.v 8, .l 27], none⟩])
  (.seq
  (.seq
  (.reg [⟨.l 28, .p .mv, [.v 6], none⟩,
    ⟨.l 29, .r (.ld true 4), [.v 8], none⟩,
    ⟨.l 30, .l (.cal 115), [.l 29], none⟩,
    ⟨.l 31, .r (.lkp ⟨true, [1, 1]⟩ [.m (.i .i64 0)] false false), [.l 28, .l 30], none⟩,
    ⟨.l 32, .p (.fad 2), [.v 8], none⟩,
    ⟨.l 33, .r (.ld false 1), [.l 32], none⟩,
    ⟨.v 34, .p (.bin .neq), [.l 31, .l 33], none⟩])
  (.ite (.v 34)
    (.seq
    (.reg [⟨.v 4, .p .mv, [.k (.m (.nl 4))], none⟩,
      ⟨.v 5, .p .mv, [.k (.m (.i .i64 17))], none⟩])
    .ret)
    .skip))
  (.seq
  (.reg [⟨.l 35, .p .mv, [.v 6], none⟩,
    ⟨.l 36, .r (.ld true 4), [.v 8], none⟩,
    ⟨.l 37, .l (.cal 115), [.l 36], none⟩,
    ⟨.l 38, .p (.fad 3), [.v 8], none⟩,
    ⟨.l 39, .r (.ld false 1), [.l 38], none⟩,
    ⟨.no, .l (.mup ⟨true, [1, 1]⟩), [.l 35, .l 37, .l 39], none⟩])
  (.seq
  (.reg [⟨.l 40, .p (.fad 3), [.v 8], none⟩,
    ⟨.l 41, .r (.ld false 1), [.l 40], none⟩,
    ⟨.v 42, .p (.bin .eql), [.l 41, .k (.m (.i .i64 0))], none⟩])
  (.ite (.v 42)
    (.reg [⟨.l 43, .p .mv, [.v 6], none⟩,
      ⟨.l 44, .r (.ld true 4), [.v 8], none⟩,
      ⟨.l 45, .l (.cal 115), [.l 44], none⟩,
      ⟨.no, .l (.mdl ⟨true, [1, 1]⟩), [.l 43, .l 45], none⟩])
    .skip))))))
  (.reg [⟨.l 46, .p (.bin .add), [.v 24, .k (.m (.i .i64 1))], none⟩,
    ⟨.v 24, .p .mv, [.l 46], none⟩]))))
def c75_L0 : C := .loop [0, 1, 4, 5, 8, 19, 25, 34, 42] c75_B0
def c75_B1 : C :=
  (.seq
  (.reg [⟨.l 49, .p .mv, [], none⟩,
    ⟨.v 50, .p (.ext 0), [.l 49], none⟩])
  (.seq
  (.ite (.v 50)
    .skip
    (.ex 2))
  (.blk 3
  (.seq
  (.reg [⟨.l 51, .p .mv, [], none⟩,
    ⟨.l 52, .p (.ext 0), [.l 51], none⟩,
    ⟨.l 53, .p (.ext 1), [.l 51], none⟩,
    ⟨.v 10, .l (.alp 10 [.m (.i .i64 0), .m (.i .i64 0)]), [], none⟩,
    ⟨.no, .l (.st 2), [.v 10, .l 52], none⟩,
    ⟨.v 11, .p .mv, [.l 53], none⟩])
  (.reg [⟨.l 54, .p .mv, [.v 9], none⟩,
    ⟨.l 55, .p (.fad 0), [.v 10], none⟩,
    ⟨.l 56, .r (.ld false 1), [.l 55], none⟩,
    ⟨.l 57, .p (.fad 1), [.v 10], none⟩,
    ⟨.l 58, .r (.ld false 1), [.l 57], none⟩,
    ⟨.l 59, .p .mv, [.v 11], none⟩,
    ⟨.l 60, .p (.build [.m (.i .i64 0), .m (.i .i64 0), .m (.i .i64 0)] [(0, 1), (1, 1), (2, 1)]), [.l 56, .l 58, .l 59], none⟩,
    ⟨.l 61, .p (.bsl 3 [.m (.i .i64 0), .m (.i .i64 0), .m (.i .i64 0)] 1 [0]), [.l 60], none⟩,
    ⟨.l 62, .l (.app 113 3 24), [.l 54, .l 61], none⟩,
    ⟨.v 9, .p .mv, [.l 62], none⟩])))))
def c75_L1 : C := .loop [6, 10, 11, 22, 23, 24, 25, 50] c75_B1
def c75 : F := ⟨2, [.t 4, .t 5],
  (.seq
  (.reg [⟨.v 4, .p .mv, [.k (.m (.nl 4))], none⟩,
    ⟨.v 5, .p .mv, [.k (.m (.i .i64 0))], none⟩])
  (.seq
  (.seq
  (.reg [⟨.l 12, .p .mv, [.v 0], none⟩,
    ⟨.l 13, .l (.cal 73), [.l 12], none⟩,
    ⟨.l 14, .p (.un .not), [.l 13], none⟩,
    ⟨.l 15, .p .mv, [.l 14], none⟩,
    ⟨.l 16, .p .mv, [.v 1], some (.l 15, false)⟩,
    ⟨.l 17, .l (.cal 74), [.l 16], some (.l 15, false)⟩,
    ⟨.l 18, .p (.un .not), [.l 17], some (.l 15, false)⟩,
    ⟨.v 19, .p .pick, [.l 15, .k (.m (.b true)), .l 18], none⟩])
  (.ite (.v 19)
    (.seq
    (.reg [⟨.v 4, .p .mv, [.k (.m (.nl 4))], none⟩,
      ⟨.v 5, .p .mv, [.k (.m (.i .i64 2))], none⟩])
    .ret)
    .skip))
  (.seq
  (.reg [⟨.l 20, .p .mv, [.v 0], none⟩,
    ⟨.l 21, .l (.cal 114), [.l 20], none⟩,
    ⟨.v 6, .p .mv, [.l 21], none⟩])
  (.seq
  (.seq
  (.reg [⟨.v 22, .p .mv, [.v 1], none⟩,
    ⟨.v 23, .p (.len false), [.v 22], none⟩,
    ⟨.v 24, .p .mv, [.k (.m (.i .i64 0))], none⟩])
  (.blk 0
  c75_L0))
  (.seq
  (.reg [⟨.v 9, .p .mv, [.k (.m (.nl 4))], none⟩])
  (.seq
  (.seq
  (.reg [⟨.l 47, .p .mv, [.v 6], none⟩,
    ⟨.v 48, .p .mv, [], none⟩])
  (.blk 2
  c75_L1))
  (.seq
  (.reg [⟨.l 63, .p .mv, [.v 9], none⟩,
    ⟨.l 64, .l (.cal 94), [.l 63], none⟩,
    ⟨.l 65, .p (.ext 0), [.l 64], none⟩,
    ⟨.l 66, .p (.ext 1), [.l 64], none⟩,
    ⟨.v 4, .p .mv, [.l 65], none⟩,
    ⟨.v 5, .p .mv, [.l 66], none⟩])
  .ret)))))))⟩

/- cellular/timeline.patterns -/
def c76_B0 : C :=
  (.seq
  (.reg [⟨.v 28, .p (.bin .lss), [.v 27, .v 26], none⟩])
  (.seq
  (.ite (.v 28)
    .skip
    (.ex 0))
  (.seq
  (.blk 1
  (.seq
  (.reg [⟨.l 29, .p .mv, [.v 27], none⟩,
    ⟨.l 30, .p (.ixa 4), [.v 25, .v 27], none⟩,
    ⟨.l 31, .r (.ld true 4), [.l 30], none⟩,
    ⟨.v 7, .l (.alp 7 [.m (.i .i64 0), .m (.b false), .m (.nl 4), .m (.nl 4)]), [], none⟩,
    ⟨.v 6, .p .mv, [.l 29], none⟩,
    ⟨.no, .l (.st 4), [.v 7, .l 31], none⟩])
  (.seq
  (.seq
  (.reg [⟨.l 32, .p (.fad 0), [.v 7], none⟩,
    ⟨.l 33, .r (.ld false 1), [.l 32], none⟩,
    ⟨.l 34, .p .mv, [.v 5], none⟩,
    ⟨.l 35, .p (.bin .leq), [.l 33, .l 34], none⟩,
    ⟨.l 36, .p .mv, [.l 35], none⟩,
    ⟨.l 37, .p (.fad 0), [.v 7], some (.l 36, false)⟩,
    ⟨.l 38, .r (.ld false 1), [.l 37], some (.l 36, false)⟩,
    ⟨.l 39, .p (.bin .gtr), [.l 38, .k (.m (.i .i64 2147483647))], some (.l 36, false)⟩,
    ⟨.l 40, .p .pick, [.l 36, .k (.m (.b true)), .l 39], none⟩,
    ⟨.l 41, .p .mv, [.l 40], none⟩,
    ⟨.l 42, .p (.fad 1), [.v 7], some (.l 41, false)⟩,
    ⟨.l 43, .r (.ld false 1), [.l 42], some (.l 41, false)⟩,
    ⟨.l 44, .p .mv, [.v 6], some (.l 41, false)⟩,
    ⟨.l 45, .p (.fad 0), [.v 1], some (.l 41, false)⟩,
    ⟨.l 46, .r (.ld false 1), [.l 45], some (.l 41, false)⟩,
    ⟨.l 47, .p (.bin .rem), [.l 44, .l 46], some (.l 41, false)⟩,
    ⟨.l 48, .p (.bin .eql), [.l 47, .k (.m (.i .i64 0))], some (.l 41, false)⟩,
    ⟨.l 49, .p (.eqb true), [.l 43, .l 48], some (.l 41, false)⟩,
    ⟨.v 50, .p .pick, [.l 41, .k (.m (.b true)), .l 49], none⟩])
  (.ite (.v 50)
    (.seq
    (.reg [⟨.v 2, .p .mv, [.k (.m (.nl 4))], none⟩,
      ⟨.v 3, .p .mv, [.k (.m (.b false))], none⟩])
    .ret)
    .skip))
  (.seq
  (.reg [⟨.l 51, .p (.fad 0), [.v 7], none⟩,
    ⟨.l 52, .r (.ld false 1), [.l 51], none⟩,
    ⟨.v 5, .p .mv, [.l 52], none⟩])
  (.seq
  (.seq
  (.reg [⟨.l 53, .p (.fad 1), [.v 7], none⟩,
    ⟨.v 54, .r (.ld false 1), [.l 53], none⟩])
  (.ite (.v 54)
    (.seq
    (.seq
    (.reg [⟨.l 55, .p (.fad 2), [.v 7], none⟩,
      ⟨.l 56, .r (.ld false 1), [.l 55], none⟩,
      ⟨.l 57, .l (.cal 73), [.l 56], none⟩,
      ⟨.l 58, .p (.un .not), [.l 57], none⟩,
      ⟨.l 59, .p .mv, [.l 58], none⟩,
      ⟨.l 60, .p (.fad 3), [.v 7], some (.l 59, false)⟩,
      ⟨.l 61, .r (.ld false 1), [.l 60], some (.l 59, false)⟩,
      ⟨.l 62, .p (.len false), [.l 61], some (.l 59, false)⟩,
      ⟨.l 63, .p (.bin .gtr), [.l 62, .k (.m (.i .i64 0))], some (.l 59, false)⟩,
      ⟨.v 64, .p .pick, [.l 59, .k (.m (.b true)), .l 63], none⟩])
    (.ite (.v 64)
      (.seq
      (.reg [⟨.v 2, .p .mv, [.k (.m (.nl 4))], none⟩,
        ⟨.v 3, .p .mv, [.k (.m (.b false))], none⟩])
      .ret)
      .skip))
    (.seq
    (.reg [⟨.l 65, .p .mv, [.v 4], none⟩,
      ⟨.l 66, .p (.fad 2), [.v 7], none⟩,
      ⟨.l 67, .r (.ld false 1), [.l 66], none⟩,
      ⟨.l 68, .l (.bsf 1 [.m (.nl 4)] 1 [0]), [.l 67], none⟩,
      ⟨.l 69, .l (.app 57 1 24), [.l 65, .l 68], none⟩,
      ⟨.v 4, .p .mv, [.l 69], none⟩])
    (.ex 1)))
    .skip))
  (.seq
  (.reg [⟨.l 71, .p .mv, [.v 4], none⟩,
    ⟨.l 72, .p .mv, [.v 6], none⟩,
    ⟨.l 73, .p (.bin .sub), [.l 72, .k (.m (.i .i64 1))], none⟩,
    ⟨.l 74, .p (.ixa 1), [.l 71, .l 73], none⟩,
    ⟨.l 75, .r (.ld false 1), [.l 74], none⟩,
    ⟨.l 76, .p (.fad 3), [.v 7], none⟩,
    ⟨.l 77, .r (.ld false 1), [.l 76], none⟩,
    ⟨.l 78, .l (.cal 75), [.l 75, .l 77], none⟩,
    ⟨.l 70, .p .mv, [.l 78], none⟩,
    ⟨.l 79, .p (.ext 0), [.l 70], none⟩,
    ⟨.l 80, .p (.ext 1), [.l 70], none⟩,
    ⟨.v 8, .p .mv, [.l 79], none⟩,
    ⟨.v 9, .p .mv, [.l 80], none⟩])
  (.seq
  (.seq
  (.reg [⟨.l 81, .p .mv, [.v 9], none⟩,
    ⟨.l 82, .p (.bin .neq), [.l 81, .k (.m (.i .i64 0))], none⟩,
    ⟨.l 83, .p .mv, [.l 82], none⟩,
    ⟨.l 84, .p (.fad 2), [.v 7], some (.l 83, false)⟩,
    ⟨.l 85, .r (.ld false 1), [.l 84], some (.l 83, false)⟩,
    ⟨.l 86, .p (.len false), [.l 85], some (.l 83, false)⟩,
    ⟨.l 87, .p (.bin .gtr), [.l 86, .k (.m (.i .i64 0))], some (.l 83, false)⟩,
    ⟨.v 88, .p .pick, [.l 83, .k (.m (.b true)), .l 87], none⟩])
  (.ite (.v 88)
    (.seq
    (.reg [⟨.v 2, .p .mv, [.k (.m (.nl 4))], none⟩,
      ⟨.v 3, .p .mv, [.k (.m (.b false))], none⟩])
    .ret)
    .skip))
  (.reg [⟨.l 89, .p .mv, [.v 4], none⟩,
    ⟨.l 90, .p .mv, [.v 8], none⟩,
    ⟨.l 91, .l (.bsf 1 [.m (.nl 4)] 1 [0]), [.l 90], none⟩,
    ⟨.l 92, .l (.app 57 1 24), [.l 89, .l 91], none⟩,
    ⟨.v 4, .p .mv, [.l 92], none⟩]))))))))
  (.reg [⟨.l 93, .p (.bin .add), [.v 27, .k (.m (.i .i64 1))], none⟩,
    ⟨.v 27, .p .mv, [.l 93], none⟩]))))
def c76_L0 : C := .loop [0, 2, 3, 6, 7, 8, 9, 23, 28, 50, 54, 64, 88] c76_B0
def c76 : F := ⟨1, [.t 2, .t 3],
  (.seq
  (.reg [⟨.v 1, .l (.bxp 1 2), [.v 0], none⟩,
    ⟨.v 2, .p .mv, [.k (.m (.nl 4))], none⟩,
    ⟨.v 3, .p .mv, [.k (.m (.b false))], none⟩])
  (.seq
  (.seq
  (.reg [⟨.l 10, .p (.fad 0), [.v 1], none⟩,
    ⟨.l 11, .r (.ld false 1), [.l 10], none⟩,
    ⟨.l 12, .p (.bin .lss), [.l 11, .k (.m (.i .i64 1))], none⟩,
    ⟨.l 13, .p .mv, [.l 12], none⟩,
    ⟨.l 14, .p (.fad 0), [.v 1], some (.l 13, false)⟩,
    ⟨.l 15, .r (.ld false 1), [.l 14], some (.l 13, false)⟩,
    ⟨.l 16, .p (.bin .gtr), [.l 15, .k (.m (.i .i64 100))], some (.l 13, false)⟩,
    ⟨.l 17, .p .pick, [.l 13, .k (.m (.b true)), .l 16], none⟩,
    ⟨.l 18, .p .mv, [.l 17], none⟩,
    ⟨.l 19, .p (.fad 1), [.v 1], some (.l 18, false)⟩,
    ⟨.l 20, .r (.ld false 1), [.l 19], some (.l 18, false)⟩,
    ⟨.l 21, .p (.len false), [.l 20], some (.l 18, false)⟩,
    ⟨.l 22, .p (.bin .gtr), [.l 21, .k (.m (.i .i64 1000))], some (.l 18, false)⟩,
    ⟨.v 23, .p .pick, [.l 18, .k (.m (.b true)), .l 22], none⟩])
  (.ite (.v 23)
    (.seq
    (.reg [⟨.v 2, .p .mv, [.k (.m (.nl 4))], none⟩,
      ⟨.v 3, .p .mv, [.k (.m (.b false))], none⟩])
    .ret)
    .skip))
  (.seq
  (.reg [⟨.v 4, .p .mv, [.k (.m (.nl 4))], none⟩])
  (.seq
  (.reg [⟨.v 5, .p .mv, [.k (.m (.i .i64 (-1)))], none⟩])
  (.seq
  (.seq
  (.reg [⟨.l 24, .p (.fad 1), [.v 1], none⟩,
    ⟨.v 25, .r (.ld false 1), [.l 24], none⟩,
    ⟨.v 26, .p (.len false), [.v 25], none⟩,
    ⟨.v 27, .p .mv, [.k (.m (.i .i64 0))], none⟩])
  (.blk 0
  c76_L0))
  (.seq
  (.reg [⟨.l 94, .p .mv, [.v 4], none⟩,
    ⟨.v 2, .p .mv, [.l 94], none⟩,
    ⟨.v 3, .p .mv, [.k (.m (.b true))], none⟩])
  .ret))))))⟩

/- slices.ContainsFunc[[]cellular/api.Pattern,cellular/api.Pattern] -/
def c77 : F := ⟨2, [.t 4],
  (.seq
  (.reg [⟨.v 4, .p .mv, [.k (.m (.b false))], none⟩])
  (.seq
  (.reg [⟨.l 5, .p .mv, [.v 0], none⟩,
    ⟨.l 6, .p .mv, [.v 1], none⟩,
    ⟨.l 7, .l (.cal 116), [.l 5, .l 6], none⟩,
    ⟨.l 8, .p (.bin .geq), [.l 7, .k (.m (.i .i64 0))], none⟩,
    ⟨.v 4, .p .mv, [.l 8], none⟩])
  .ret))⟩

/- cellular/timeline.Follows$1 -/
def c78 : F := ⟨2, [.t 3],
  (.seq
  (.reg [⟨.v 3, .p .mv, [.k (.m (.b false))], none⟩])
  (.seq
  (.reg [⟨.l 4, .p .mv, [.v 0], none⟩,
    ⟨.l 5, .l (.cal 79), [.l 4], none⟩,
    ⟨.l 6, .p (.fad 0), [.v 1], none⟩,
    ⟨.l 7, .r (.ld false 1), [.l 6], none⟩,
    ⟨.l 8, .p (.bin .geq), [.l 5, .l 7], none⟩,
    ⟨.v 3, .p .mv, [.l 8], none⟩])
  .ret))⟩

/- cellular/pattern.Top -/
def c79_B0 : C :=
  (.seq
  (.reg [⟨.v 8, .p (.bin .lss), [.v 7, .v 6], none⟩])
  (.seq
  (.ite (.v 8)
    .skip
    (.ex 0))
  (.seq
  (.blk 1
  (.seq
  (.reg [⟨.l 9, .p .mv, [.v 7], none⟩,
    ⟨.v 4, .p .mv, [.l 9], none⟩])
  (.reg [⟨.l 10, .p .mv, [.v 3], none⟩,
    ⟨.l 11, .p .mv, [.v 0], none⟩,
    ⟨.l 12, .p .mv, [.v 4], none⟩,
    ⟨.l 13, .p (.ixa 3), [.l 11, .l 12], none⟩,
    ⟨.l 14, .p (.fad 2), [.l 13], none⟩,
    ⟨.l 15, .r (.ld false 1), [.l 14], none⟩,
    ⟨.l 16, .p (.mm true), [.l 10, .l 15], none⟩,
    ⟨.v 3, .p .mv, [.l 16], none⟩])))
  (.reg [⟨.l 17, .p (.bin .add), [.v 7, .k (.m (.i .i64 1))], none⟩,
    ⟨.v 7, .p .mv, [.l 17], none⟩]))))
def c79_L0 : C := .loop [2, 4, 8] c79_B0
def c79 : F := ⟨1, [.t 2],
  (.seq
  (.reg [⟨.v 2, .p .mv, [.k (.m (.i .i64 0))], none⟩])
  (.seq
  (.reg [⟨.v 3, .p .mv, [.k (.m (.i .i64 0))], none⟩])
  (.seq
  (.seq
  (.reg [⟨.l 5, .p .mv, [.v 0], none⟩,
    ⟨.v 6, .p (.len false), [.l 5], none⟩,
    ⟨.v 7, .p .mv, [.k (.m (.i .i64 0))], none⟩])
  (.blk 0
  c79_L0))
  (.seq
  (.reg [⟨.l 18, .p .mv, [.v 3], none⟩,
    ⟨.v 2, .p .mv, [.l 18], none⟩])
  .ret))))⟩

/- cellular/direct.Run -/
def c80_B0 : C :=
  (.seq
  (.reg [⟨.v 25, .p (.bin .lss), [.v 24, .v 23], none⟩])
  (.seq
  (.ite (.v 25)
    .skip
    (.ex 0))
  (.seq
  (.blk 1
  (.seq
  (.reg [⟨.l 27, .r (.ld true 3), [.v 3], none⟩,
    ⟨.l 28, .p .mv, [.v 1], none⟩,
    ⟨.l 29, .l (.cal 118), [.l 27, .l 28], none⟩,
    ⟨.l 26, .p .mv, [.l 29], none⟩,
    ⟨.l 30, .p (.ext 0), [.l 26], none⟩,
    ⟨.l 31, .p (.ext 1), [.l 26], none⟩,
    ⟨.v 9, .p .mv, [.l 30], none⟩,
    ⟨.v 10, .p .mv, [.l 31], none⟩])
  (.seq
  (.seq
  (.reg [⟨.l 32, .p .mv, [.v 10], none⟩,
    ⟨.v 33, .p (.bin .neq), [.l 32, .k (.m (.i .i64 0))], none⟩])
  (.ite (.v 33)
    (.seq
    (.reg [⟨.l 34, .p .mv, [.v 10], none⟩,
      ⟨.v 6, .p .mv, [.k (.m (.nl 4))], none⟩,
      ⟨.v 7, .p .mv, [.l 34], none⟩])
    .ret)
    .skip))
  (.reg [⟨.l 35, .p .mv, [.v 9], none⟩,
    ⟨.v 1, .p .mv, [.l 35], none⟩]))))
  (.reg [⟨.l 36, .p (.bin .add), [.v 24, .k (.m (.i .i64 1))], none⟩,
    ⟨.v 24, .p .mv, [.l 36], none⟩]))))
def c80_L0 : C := .loop [0, 2, 6, 7, 8, 9, 10, 15, 22, 25, 33] c80_B0
def c80 : F := ⟨3, [.t 6, .t 7],
  (.seq
  (.reg [⟨.v 3, .l (.bxp 3 3), [.v 0], none⟩,
    ⟨.v 6, .p .mv, [.k (.m (.nl 4))], none⟩,
    ⟨.v 7, .p .mv, [.k (.m (.i .i64 0))], none⟩])
  (.seq
  (.seq
  (.reg [⟨.l 11, .r (.ld true 3), [.v 3], none⟩,
    ⟨.l 12, .p .mv, [.v 1], none⟩,
    ⟨.l 13, .l (.cal 117), [.l 11, .l 12], none⟩,
    ⟨.v 8, .p .mv, [.l 13], none⟩])
  (.seq
  (.reg [⟨.l 14, .p .mv, [.v 8], none⟩,
    ⟨.v 15, .p (.bin .neq), [.l 14, .k (.m (.i .i64 0))], none⟩])
  (.ite (.v 15)
    (.seq
    (.reg [⟨.l 16, .p .mv, [.v 8], none⟩,
      ⟨.v 6, .p .mv, [.k (.m (.nl 4))], none⟩,
      ⟨.v 7, .p .mv, [.l 16], none⟩])
    .ret)
    .skip)))
  (.seq
  (.seq
  (.reg [⟨.l 17, .p .mv, [.v 2], none⟩,
    ⟨.l 18, .p (.bin .lss), [.l 17, .k (.m (.i .i64 0))], none⟩,
    ⟨.l 19, .p .mv, [.l 18], none⟩,
    ⟨.l 20, .p .mv, [.v 2], some (.l 19, false)⟩,
    ⟨.l 21, .p (.bin .gtr), [.l 20, .k (.m (.i .i64 10000))], some (.l 19, false)⟩,
    ⟨.v 22, .p .pick, [.l 19, .k (.m (.b true)), .l 21], none⟩])
  (.ite (.v 22)
    (.seq
    (.reg [⟨.v 6, .p .mv, [.k (.m (.nl 4))], none⟩,
      ⟨.v 7, .p .mv, [.k (.m (.i .i64 2))], none⟩])
    .ret)
    .skip))
  (.seq
  (.seq
  (.reg [⟨.v 23, .p .mv, [.v 2], none⟩,
    ⟨.v 24, .p .mv, [.k (.m (.i .i64 0))], none⟩])
  (.blk 0
  c80_L0))
  (.seq
  (.reg [⟨.l 37, .p .mv, [.v 1], none⟩,
    ⟨.v 6, .p .mv, [.l 37], none⟩,
    ⟨.v 7, .p .mv, [.k (.m (.i .i64 0))], none⟩])
  .ret)))))⟩

/- cellular/pattern.Same -/
def c81 : F := ⟨2, [.t 4],
  (.seq
  (.reg [⟨.v 4, .p .mv, [.k (.m (.b false))], none⟩])
  (.seq
  (.reg [⟨.l 5, .p .mv, [.v 0], none⟩,
    ⟨.l 6, .p .mv, [.v 1], none⟩,
    ⟨.l 7, .l (.cal 119), [.l 5, .l 6], none⟩,
    ⟨.v 4, .p .mv, [.l 7], none⟩])
  .ret))⟩

/- cellular/recipe.parts -/
def c93_B0 : C :=
  (.seq
  (.reg [⟨.v 57, .p (.bin .lss), [.v 56, .v 55], none⟩])
  (.seq
  (.ite (.v 57)
    .skip
    (.ex 1))
  (.seq
  (.blk 2
  (.seq
  (.reg [⟨.l 58, .p (.ixa 4), [.v 54, .v 56], none⟩,
    ⟨.l 59, .r (.ld true 4), [.l 58], none⟩,
    ⟨.v 7, .l (.alp 7 [.m (.nl 4), .m (.i .i64 0), .m (.i .i64 0), .m (.i .i64 0)]), [], none⟩,
    ⟨.no, .l (.st 4), [.v 7, .l 59], none⟩])
  (.seq
  (.reg [⟨.l 60, .r (.ld true 3), [.v 2], none⟩,
    ⟨.l 61, .r (.ld true 4), [.v 7], none⟩,
    ⟨.l 62, .l (.cal 124), [.l 60, .l 61], none⟩,
    ⟨.v 63, .p (.un .not), [.l 62], none⟩])
  (.ite (.v 63)
    (.seq
    (.reg [⟨.v 4, .p .mv, [.k (.m (.nl 4))], none⟩,
      ⟨.v 5, .p .mv, [.k (.m (.i .i64 17))], none⟩])
    .ret)
    .skip))))
  (.reg [⟨.l 64, .p (.bin .add), [.v 56, .k (.m (.i .i64 1))], none⟩,
    ⟨.v 56, .p .mv, [.l 64], none⟩]))))
def c93_L0 : C := .loop [0, 1, 4, 5, 7, 16, 20, 31, 46, 57, 63] c93_B0
def c93_B1 : C :=
  (.seq
  (.reg [⟨.v 69, .p (.bin .lss), [.v 68, .v 67], none⟩])
  (.seq
  (.ite (.v 69)
    .skip
    (.ex 3))
  (.seq
  (.blk 4
  (.seq
  (.reg [⟨.l 70, .p (.ixa 5), [.v 66, .v 68], none⟩,
    ⟨.l 71, .r (.ld true 5), [.l 70], none⟩,
    ⟨.v 10, .l (.alp 10 [.m (.i .i64 0), .m (.i .i64 0), .m (.i .i64 0), .m (.i .i64 0), .m (.i .i64 0)]), [], none⟩,
    ⟨.no, .l (.st 5), [.v 10, .l 71], none⟩])
  (.seq
  (.reg [⟨.l 73, .r (.ld true 3), [.v 2], none⟩,
    ⟨.l 74, .p (.fad 0), [.v 3], none⟩,
    ⟨.l 75, .r (.ld false 1), [.l 74], none⟩,
    ⟨.l 76, .r (.ld true 5), [.v 10], none⟩,
    ⟨.l 77, .l (.cal 56), [.l 73, .l 75, .l 76], none⟩,
    ⟨.l 72, .p .mv, [.l 77], none⟩,
    ⟨.l 78, .p (.ext 0), [.l 72], none⟩,
    ⟨.l 79, .p (.ext 1), [.l 72], none⟩,
    ⟨.v 11, .p .mv, [.l 78], none⟩,
    ⟨.v 12, .p .mv, [.l 79], none⟩])
  (.seq
  (.seq
  (.reg [⟨.l 80, .p .mv, [.v 12], none⟩,
    ⟨.v 81, .p (.bin .neq), [.l 80, .k (.m (.i .i64 0))], none⟩])
  (.ite (.v 81)
    (.seq
    (.reg [⟨.l 82, .p .mv, [.v 12], none⟩,
      ⟨.v 4, .p .mv, [.k (.m (.nl 4))], none⟩,
      ⟨.v 5, .p .mv, [.l 82], none⟩])
    .ret)
    .skip))
  (.reg [⟨.l 83, .p .mv, [.v 8], none⟩,
    ⟨.l 84, .p .mv, [.v 11], none⟩,
    ⟨.l 85, .l (.bsf 1 [.m (.nl 4)] 1 [0]), [.l 84], none⟩,
    ⟨.l 86, .l (.app 57 1 24), [.l 83, .l 85], none⟩,
    ⟨.v 8, .p .mv, [.l 86], none⟩])))))
  (.reg [⟨.l 87, .p (.bin .add), [.v 68, .k (.m (.i .i64 1))], none⟩,
    ⟨.v 68, .p .mv, [.l 87], none⟩]))))
def c93_L1 : C := .loop [10, 11, 12, 54, 55, 56, 57, 69, 81] c93_B1
def c93_B2 : C :=
  (.seq
  (.reg [⟨.v 98, .p (.bin .lss), [.v 97, .v 96], none⟩])
  (.seq
  (.ite (.v 98)
    .skip
    (.ex 7))
  (.seq
  (.blk 8
  (.seq
  (.reg [⟨.l 99, .p (.ixa 1), [.v 95, .v 97], none⟩,
    ⟨.l 100, .r (.ld false 1), [.l 99], none⟩,
    ⟨.v 15, .p .mv, [.l 100], none⟩])
  (.seq
  (.reg [⟨.l 101, .p .mv, [.v 15], none⟩,
    ⟨.l 102, .p .mv, [.v 8], none⟩,
    ⟨.l 103, .p .mv, [.v 13], none⟩,
    ⟨.l 104, .p (.ixa 1), [.l 102, .l 103], none⟩,
    ⟨.l 105, .r (.ld false 1), [.l 104], none⟩,
    ⟨.l 106, .l (.cal 125), [.l 101, .l 105], none⟩,
    ⟨.v 107, .p (.un .not), [.l 106], none⟩])
  (.ite (.v 107)
    (.seq
    (.reg [⟨.v 4, .p .mv, [.k (.m (.nl 4))], none⟩,
      ⟨.v 5, .p .mv, [.k (.m (.i .i64 8))], none⟩])
    .ret)
    .skip))))
  (.reg [⟨.l 108, .p (.bin .add), [.v 97, .k (.m (.i .i64 1))], none⟩,
    ⟨.v 97, .p .mv, [.l 108], none⟩]))))
def c93_L2 : C := .loop [15, 91, 98, 107] c93_B2
def c93_B3 : C :=
  (.seq
  (.reg [⟨.v 91, .p (.bin .lss), [.v 90, .v 89], none⟩])
  (.seq
  (.ite (.v 91)
    .skip
    (.ex 5))
  (.seq
  (.blk 6
  (.seq
  (.reg [⟨.l 92, .p .mv, [.v 90], none⟩,
    ⟨.v 13, .p .mv, [.l 92], none⟩])
  (.seq
  (.reg [⟨.l 93, .p .mv, [.v 8], none⟩,
    ⟨.l 94, .p .mv, [.v 13], none⟩,
    ⟨.v 95, .p (.slc 1 false true false), [.l 93, .l 94], none⟩,
    ⟨.v 96, .p (.len false), [.v 95], none⟩,
    ⟨.v 97, .p .mv, [.k (.m (.i .i64 0))], none⟩])
  (.blk 7
  c93_L2))))
  (.reg [⟨.l 109, .p (.bin .add), [.v 90, .k (.m (.i .i64 1))], none⟩,
    ⟨.v 90, .p .mv, [.l 109], none⟩]))))
def c93_L3 : C := .loop [2, 3, 13, 66, 67, 68, 69, 95, 96, 97, 98] c93_B3
def c93 : F := ⟨2, [.t 4, .t 5],
  (.seq
  (.reg [⟨.v 2, .l (.bxp 2 3), [.v 0], none⟩,
    ⟨.v 3, .l (.bxp 3 4), [.v 1], none⟩,
    ⟨.v 4, .p .mv, [.k (.m (.nl 4))], none⟩,
    ⟨.v 5, .p .mv, [.k (.m (.i .i64 0))], none⟩])
  (.seq
  (.blk 0
  (.seq
  (.reg [⟨.l 17, .r (.ld true 3), [.v 2], none⟩,
    ⟨.l 18, .l (.cal 41), [.l 17], none⟩,
    ⟨.l 19, .p (.un .not), [.l 18], none⟩,
    ⟨.v 16, .p .mv, [.l 19], none⟩])
  (.ite (.v 16)
    (.seq
    (.reg [⟨.v 4, .p .mv, [.k (.m (.nl 4))], none⟩,
      ⟨.v 5, .p .mv, [.k (.m (.i .i64 11))], none⟩])
    .ret)
    (.seq
    (.reg [⟨.l 21, .p (.fad 0), [.v 3], none⟩,
      ⟨.l 22, .r (.ld false 1), [.l 21], none⟩,
      ⟨.l 23, .p (.len false), [.l 22], none⟩,
      ⟨.l 24, .p (.bin .gtr), [.l 23, .k (.m (.i .i64 8))], none⟩,
      ⟨.l 25, .p .mv, [.l 24], none⟩,
      ⟨.l 26, .p (.fad 1), [.v 3], some (.l 25, false)⟩,
      ⟨.l 27, .r (.ld false 1), [.l 26], some (.l 25, false)⟩,
      ⟨.l 28, .p (.len false), [.l 27], some (.l 25, false)⟩,
      ⟨.l 29, .p (.bin .gtr), [.l 28, .k (.m (.i .i64 16))], some (.l 25, false)⟩,
      ⟨.l 30, .p .pick, [.l 25, .k (.m (.b true)), .l 29], none⟩,
      ⟨.v 20, .p .mv, [.l 30], none⟩])
    (.ite (.v 20)
      (.seq
      (.reg [⟨.v 4, .p .mv, [.k (.m (.nl 4))], none⟩,
        ⟨.v 5, .p .mv, [.k (.m (.i .i64 6))], none⟩])
      .ret)
      (.seq
      (.reg [⟨.l 32, .p (.fad 2), [.v 3], none⟩,
        ⟨.l 33, .r (.ld false 1), [.l 32], none⟩,
        ⟨.l 34, .p (.bin .lss), [.l 33, .k (.m (.i .i64 0))], none⟩,
        ⟨.l 35, .p .mv, [.l 34], none⟩,
        ⟨.l 36, .p (.fad 2), [.v 3], some (.l 35, false)⟩,
        ⟨.l 37, .r (.ld false 1), [.l 36], some (.l 35, false)⟩,
        ⟨.l 38, .p (.bin .gtr), [.l 37, .k (.m (.i .i64 10000))], some (.l 35, false)⟩,
        ⟨.l 39, .p .pick, [.l 35, .k (.m (.b true)), .l 38], none⟩,
        ⟨.l 40, .p .mv, [.l 39], none⟩,
        ⟨.l 41, .p (.fad 3), [.v 3], some (.l 40, false)⟩,
        ⟨.l 42, .r (.ld false 1), [.l 41], some (.l 40, false)⟩,
        ⟨.l 43, .l (.cal 73), [.l 42], some (.l 40, false)⟩,
        ⟨.l 44, .p (.un .not), [.l 43], some (.l 40, false)⟩,
        ⟨.l 45, .p .pick, [.l 40, .k (.m (.b true)), .l 44], none⟩,
        ⟨.v 31, .p .mv, [.l 45], none⟩])
      (.ite (.v 31)
        (.seq
        (.reg [⟨.v 4, .p .mv, [.k (.m (.nl 4))], none⟩,
          ⟨.v 5, .p .mv, [.k (.m (.i .i64 2))], none⟩])
        .ret)
        (.seq
        (.reg [⟨.l 47, .p (.fad 3), [.v 3], none⟩,
          ⟨.l 48, .r (.ld false 1), [.l 47], none⟩,
          ⟨.l 49, .l (.cal 79), [.l 48], none⟩,
          ⟨.l 50, .p (.fad 0), [.v 2], none⟩,
          ⟨.l 51, .r (.ld false 1), [.l 50], none⟩,
          ⟨.l 52, .p (.bin .geq), [.l 49, .l 51], none⟩,
          ⟨.v 46, .p .mv, [.l 52], none⟩])
        (.ite (.v 46)
          (.seq
          (.reg [⟨.v 4, .p .mv, [.k (.m (.nl 4))], none⟩,
            ⟨.v 5, .p .mv, [.k (.m (.i .i64 10))], none⟩])
          .ret)
          .skip)))))))))
  (.seq
  (.seq
  (.reg [⟨.l 53, .p (.fad 0), [.v 3], none⟩,
    ⟨.v 54, .r (.ld false 1), [.l 53], none⟩,
    ⟨.v 55, .p (.len false), [.v 54], none⟩,
    ⟨.v 56, .p .mv, [.k (.m (.i .i64 0))], none⟩])
  (.blk 1
  c93_L0))
  (.seq
  (.reg [⟨.v 8, .p .mv, [.k (.m (.nl 4))], none⟩])
  (.seq
  (.seq
  (.reg [⟨.l 65, .p (.fad 1), [.v 3], none⟩,
    ⟨.v 66, .r (.ld false 1), [.l 65], none⟩,
    ⟨.v 67, .p (.len false), [.v 66], none⟩,
    ⟨.v 68, .p .mv, [.k (.m (.i .i64 0))], none⟩])
  (.blk 3
  c93_L1))
  (.seq
  (.seq
  (.reg [⟨.l 88, .p .mv, [.v 8], none⟩,
    ⟨.v 89, .p (.len false), [.l 88], none⟩,
    ⟨.v 90, .p .mv, [.k (.m (.i .i64 0))], none⟩])
  (.blk 5
  c93_L3))
  (.seq
  (.reg [⟨.l 110, .p .mv, [.v 8], none⟩,
    ⟨.v 4, .p .mv, [.l 110], none⟩,
    ⟨.v 5, .p .mv, [.k (.m (.i .i64 0))], none⟩])
  .ret)))))))⟩

/- cellular/pattern.From -/
def c94_B0 : C :=
  (.seq
  (.reg [⟨.v 11, .p (.bin .lss), [.v 10, .v 9], none⟩])
  (.seq
  (.ite (.v 11)
    .skip
    (.ex 0))
  (.seq
  (.blk 1
  (.seq
  (.reg [⟨.l 12, .p (.ixa 3), [.v 8, .v 10], none⟩,
    ⟨.l 13, .r (.ld true 3), [.l 12], none⟩,
    ⟨.v 6, .l (.alp 6 [.m (.i .i64 0), .m (.i .i64 0), .m (.i .i64 0)]), [], none⟩,
    ⟨.no, .l (.st 3), [.v 6, .l 13], none⟩])
  (.blk 2
  (.seq
  (.reg [⟨.l 15, .r (.ld true 3), [.v 6], none⟩,
    ⟨.l 16, .l (.cal 110), [.l 15], none⟩,
    ⟨.l 17, .l (.cal 109), [.l 16], none⟩,
    ⟨.l 18, .p (.un .not), [.l 17], none⟩,
    ⟨.v 14, .p .mv, [.l 18], none⟩])
  (.ite (.v 14)
    (.seq
    (.reg [⟨.v 2, .p .mv, [.k (.m (.nl 4))], none⟩,
      ⟨.v 3, .p .mv, [.k (.m (.i .i64 5))], none⟩])
    .ret)
    (.seq
    (.reg [⟨.l 20, .p (.fad 2), [.v 6], none⟩,
      ⟨.l 21, .r (.ld false 1), [.l 20], none⟩,
      ⟨.l 22, .p (.bin .lss), [.l 21, .k (.m (.i .i64 0))], none⟩,
      ⟨.l 23, .p .mv, [.l 22], none⟩,
      ⟨.l 24, .p (.fad 2), [.v 6], some (.l 23, false)⟩,
      ⟨.l 25, .r (.ld false 1), [.l 24], some (.l 23, false)⟩,
      ⟨.l 26, .p (.bin .geq), [.l 25, .k (.m (.i .i64 8))], some (.l 23, false)⟩,
      ⟨.l 27, .p .pick, [.l 23, .k (.m (.b true)), .l 26], none⟩,
      ⟨.v 19, .p .mv, [.l 27], none⟩])
    (.ite (.v 19)
      (.seq
      (.reg [⟨.v 2, .p .mv, [.k (.m (.nl 4))], none⟩,
        ⟨.v 3, .p .mv, [.k (.m (.i .i64 10))], none⟩])
      .ret)
      (.seq
      (.reg [⟨.l 29, .p (.fad 2), [.v 6], none⟩,
        ⟨.l 30, .r (.ld false 1), [.l 29], none⟩,
        ⟨.l 31, .p (.bin .gtr), [.l 30, .k (.m (.i .i64 0))], none⟩,
        ⟨.v 28, .p .mv, [.l 31], none⟩])
      (.ite (.v 28)
        (.reg [⟨.l 32, .p .mv, [.v 4], none⟩,
          ⟨.l 33, .r (.ld true 3), [.v 6], none⟩,
          ⟨.l 34, .p (.bsl 3 [.m (.i .i64 0), .m (.i .i64 0), .m (.i .i64 0)] 1 [0]), [.l 33], none⟩,
          ⟨.l 35, .l (.app 113 3 24), [.l 32, .l 34], none⟩,
          ⟨.v 4, .p .mv, [.l 35], none⟩])
        .skip)))))))))
  (.reg [⟨.l 36, .p (.bin .add), [.v 10, .k (.m (.i .i64 1))], none⟩,
    ⟨.v 10, .p .mv, [.l 36], none⟩]))))
def c94_L0 : C := .loop [0, 2, 3, 6, 11, 14, 19, 28] c94_B0
def c94_B1 : C :=
  (.seq
  (.seq
  (.reg [⟨.l 39, .p .mv, [.v 7], none⟩,
    ⟨.l 40, .p .mv, [.v 4], none⟩,
    ⟨.l 41, .p (.len false), [.l 40], none⟩,
    ⟨.v 42, .p (.bin .lss), [.l 39, .l 41], none⟩])
  (.ite (.v 42)
    .skip
    (.ex 3)))
  (.seq
  (.blk 4
  (.seq
  (.reg [⟨.l 45, .p .mv, [.v 4], none⟩,
    ⟨.l 46, .p .mv, [.v 7], none⟩,
    ⟨.l 47, .p (.bin .sub), [.l 46, .k (.m (.i .i64 1))], none⟩,
    ⟨.l 48, .p (.ixa 3), [.l 45, .l 47], none⟩,
    ⟨.l 49, .r (.ld true 3), [.l 48], none⟩,
    ⟨.l 50, .l (.cal 110), [.l 49], none⟩,
    ⟨.l 51, .p .mv, [.v 4], none⟩,
    ⟨.l 52, .p .mv, [.v 7], none⟩,
    ⟨.l 53, .p (.ixa 3), [.l 51, .l 52], none⟩,
    ⟨.l 54, .r (.ld true 3), [.l 53], none⟩,
    ⟨.l 55, .l (.cal 110), [.l 54], none⟩,
    ⟨.v 56, .p (.eqs false [1, 1]), [.l 50, .l 55], none⟩])
  (.ite (.v 56)
    (.seq
    (.reg [⟨.v 2, .p .mv, [.k (.m (.nl 4))], none⟩,
      ⟨.v 3, .p .mv, [.k (.m (.i .i64 8))], none⟩])
    .ret)
    .skip)))
  (.reg [⟨.l 43, .p .mv, [.v 7], none⟩,
    ⟨.l 44, .p (.bin .add), [.l 43, .k (.m (.i .i64 1))], none⟩,
    ⟨.v 7, .p .mv, [.l 44], none⟩])))
def c94_L1 : C := .loop [8, 9, 10, 11, 42, 56] c94_B1
def c94 : F := ⟨1, [.t 2, .t 3],
  (.seq
  (.reg [⟨.v 2, .p .mv, [.k (.m (.nl 4))], none⟩,
    ⟨.v 3, .p .mv, [.k (.m (.i .i64 0))], none⟩])
  (.seq
  (.reg [⟨.v 4, .p .mv, [.k (.m (.nl 4))], none⟩])
  (.seq
  (.seq
  (.reg [⟨.v 8, .p .mv, [.v 0], none⟩,
    ⟨.v 9, .p (.len false), [.v 8], none⟩,
    ⟨.v 10, .p .mv, [.k (.m (.i .i64 0))], none⟩])
  (.blk 0
  c94_L0))
  (.seq
  (.reg [⟨.l 37, .p .mv, [.v 4], none⟩,
    ⟨.l 38, .l (.cal 126), [.l 37, .k (.m (.fn 111 []))], none⟩])
  (.seq
  (.seq
  (.reg [⟨.v 7, .p .mv, [.k (.m (.i .i64 1))], none⟩])
  (.blk 3
  c94_L1))
  (.seq
  (.seq
  (.reg [⟨.l 57, .p .mv, [.v 4], none⟩,
    ⟨.l 58, .p (.len false), [.l 57], none⟩,
    ⟨.v 59, .p (.bin .gtr), [.l 58, .k (.m (.i .i64 5000))], none⟩])
  (.ite (.v 59)
    (.seq
    (.reg [⟨.v 2, .p .mv, [.k (.m (.nl 4))], none⟩,
      ⟨.v 3, .p .mv, [.k (.m (.i .i64 6))], none⟩])
    .ret)
    .skip))
  (.seq
  (.reg [⟨.l 60, .p .mv, [.v 4], none⟩,
    ⟨.v 2, .p .mv, [.l 60], none⟩,
    ⟨.v 3, .p .mv, [.k (.m (.i .i64 0))], none⟩])
  .ret)))))))⟩

/- cellular/ship.Phase -/
def c95 : F := ⟨3, [.t 6, .t 7],
  (.seq
  (.reg [⟨.v 3, .l (.bxp 3 3), [.v 0], none⟩,
    ⟨.v 4, .l (.bxp 4 4), [.v 1], none⟩,
    ⟨.v 6, .p .mv, [.k (.m (.nl 4))], none⟩,
    ⟨.v 7, .p .mv, [.k (.m (.i .i64 0))], none⟩])
  (.seq
  (.blk 0
  (.seq
  (.reg [⟨.l 11, .r (.ld true 3), [.v 3], none⟩,
    ⟨.l 12, .l (.cal 41), [.l 11], none⟩,
    ⟨.l 13, .p (.un .not), [.l 12], none⟩,
    ⟨.v 10, .p .mv, [.l 13], none⟩])
  (.ite (.v 10)
    (.seq
    (.reg [⟨.v 6, .p .mv, [.k (.m (.nl 4))], none⟩,
      ⟨.v 7, .p .mv, [.k (.m (.i .i64 11))], none⟩])
    .ret)
    (.seq
    (.reg [⟨.l 15, .p .mv, [.v 2], none⟩,
      ⟨.l 16, .p (.bin .lss), [.l 15, .k (.m (.i .i64 0))], none⟩,
      ⟨.l 17, .p .mv, [.l 16], none⟩,
      ⟨.l 18, .p .mv, [.v 2], some (.l 17, false)⟩,
      ⟨.l 19, .p (.bin .gtr), [.l 18, .k (.m (.i .i64 10000))], some (.l 17, false)⟩,
      ⟨.l 20, .p .pick, [.l 17, .k (.m (.b true)), .l 19], none⟩,
      ⟨.l 21, .p .mv, [.l 20], none⟩,
      ⟨.l 22, .r (.ld true 3), [.v 3], some (.l 21, false)⟩,
      ⟨.l 23, .r (.ld true 4), [.v 4], some (.l 21, false)⟩,
      ⟨.l 24, .l (.cal 124), [.l 22, .l 23], some (.l 21, false)⟩,
      ⟨.l 25, .p (.un .not), [.l 24], some (.l 21, false)⟩,
      ⟨.l 26, .p .pick, [.l 21, .k (.m (.b true)), .l 25], none⟩,
      ⟨.v 14, .p .mv, [.l 26], none⟩])
    (.ite (.v 14)
      (.seq
      (.reg [⟨.v 6, .p .mv, [.k (.m (.nl 4))], none⟩,
        ⟨.v 7, .p .mv, [.k (.m (.i .i64 2))], none⟩])
      .ret)
      .skip)))))
  (.seq
  (.reg [⟨.l 28, .r (.ld true 3), [.v 3], none⟩,
    ⟨.l 29, .p (.fad 0), [.v 4], none⟩,
    ⟨.l 30, .r (.ld false 1), [.l 29], none⟩,
    ⟨.l 31, .p .mv, [.v 2], none⟩,
    ⟨.l 32, .p (.fad 1), [.v 4], none⟩,
    ⟨.l 33, .p (.fad 0), [.l 32], none⟩,
    ⟨.l 34, .r (.ld false 1), [.l 33], none⟩,
    ⟨.l 35, .p (.bin .rem), [.l 31, .l 34], none⟩,
    ⟨.l 36, .l (.cal 80), [.l 28, .l 30, .l 35], none⟩,
    ⟨.l 27, .p .mv, [.l 36], none⟩,
    ⟨.l 37, .p (.ext 0), [.l 27], none⟩,
    ⟨.l 38, .p (.ext 1), [.l 27], none⟩,
    ⟨.v 8, .p .mv, [.l 37], none⟩,
    ⟨.v 9, .p .mv, [.l 38], none⟩])
  (.seq
  (.reg [⟨.l 39, .p .mv, [.v 8], none⟩,
    ⟨.l 40, .l (.cal 98), [.l 39], none⟩,
    ⟨.l 41, .p .mv, [.v 9], none⟩,
    ⟨.v 6, .p .mv, [.l 40], none⟩,
    ⟨.v 7, .p .mv, [.l 41], none⟩])
  .ret))))⟩

/- cellular/algebra.Turn -/
def c96_B0 : C :=
  (.seq
  (.reg [⟨.v 19, .p (.bin .lss), [.v 18, .v 17], none⟩])
  (.seq
  (.ite (.v 19)
    .skip
    (.ex 0))
  (.seq
  (.blk 1
  (.seq
  (.reg [⟨.l 20, .p (.ixa 3), [.v 16, .v 18], none⟩,
    ⟨.l 21, .r (.ld true 3), [.l 20], none⟩,
    ⟨.v 8, .l (.alp 8 [.m (.i .i64 0), .m (.i .i64 0), .m (.i .i64 0)]), [], none⟩,
    ⟨.no, .l (.st 3), [.v 8, .l 21], none⟩])
  (.seq
  (.reg [⟨.l 22, .p .mv, [.v 0], none⟩,
    ⟨.l 23, .p (.fad 0), [.v 8], none⟩,
    ⟨.l 24, .r (.ld false 1), [.l 23], none⟩,
    ⟨.l 25, .p (.fad 1), [.v 8], none⟩,
    ⟨.l 26, .r (.ld false 1), [.l 25], none⟩,
    ⟨.l 27, .p (.build [.m (.i .i64 0), .m (.i .i64 0)] [(0, 1), (1, 1)]), [.l 24, .l 26], none⟩,
    ⟨.l 28, .l (.cal 127), [.l 22, .l 27], none⟩,
    ⟨.v 9, .l (.alp 9 [.m (.i .i64 0), .m (.i .i64 0)]), [], none⟩,
    ⟨.no, .l (.st 2), [.v 9, .l 28], none⟩])
  (.reg [⟨.l 29, .p .mv, [.v 6], none⟩,
    ⟨.l 30, .p (.fad 0), [.v 9], none⟩,
    ⟨.l 31, .r (.ld false 1), [.l 30], none⟩,
    ⟨.l 32, .p (.fad 1), [.v 9], none⟩,
    ⟨.l 33, .r (.ld false 1), [.l 32], none⟩,
    ⟨.l 34, .p (.fad 2), [.v 8], none⟩,
    ⟨.l 35, .r (.ld false 1), [.l 34], none⟩,
    ⟨.l 36, .p (.build [.m (.i .i64 0), .m (.i .i64 0), .m (.i .i64 0)] [(0, 1), (1, 1), (2, 1)]), [.l 31, .l 33, .l 35], none⟩,
    ⟨.l 37, .p (.bsl 3 [.m (.i .i64 0), .m (.i .i64 0), .m (.i .i64 0)] 1 [0]), [.l 36], none⟩,
    ⟨.l 38, .l (.app 113 3 24), [.l 29, .l 37], none⟩,
    ⟨.v 6, .p .mv, [.l 38], none⟩]))))
  (.reg [⟨.l 39, .p (.bin .add), [.v 18, .k (.m (.i .i64 1))], none⟩,
    ⟨.v 18, .p .mv, [.l 39], none⟩]))))
def c96_L0 : C := .loop [1, 4, 5, 8, 9, 12, 19] c96_B0
def c96 : F := ⟨2, [.t 4, .t 5],
  (.seq
  (.reg [⟨.v 4, .p .mv, [.k (.m (.nl 4))], none⟩,
    ⟨.v 5, .p .mv, [.k (.m (.i .i64 0))], none⟩])
  (.seq
  (.seq
  (.reg [⟨.l 10, .p .mv, [.v 1], none⟩,
    ⟨.l 11, .l (.cal 73), [.l 10], none⟩,
    ⟨.v 12, .p (.un .not), [.l 11], none⟩])
  (.ite (.v 12)
    (.seq
    (.reg [⟨.v 4, .p .mv, [.k (.m (.nl 4))], none⟩,
      ⟨.v 5, .p .mv, [.k (.m (.i .i64 2))], none⟩])
    .ret)
    .skip))
  (.seq
  (.reg [⟨.l 13, .p .mv, [.v 1], none⟩,
    ⟨.l 14, .p (.len false), [.l 13], none⟩,
    ⟨.l 15, .l (.mks 113 3 [.m (.i .i64 0), .m (.i .i64 0), .m (.i .i64 0)] 24), [.k (.m (.i .i64 0)), .l 14], none⟩,
    ⟨.v 6, .p .mv, [.l 15], none⟩])
  (.seq
  (.seq
  (.reg [⟨.v 16, .p .mv, [.v 1], none⟩,
    ⟨.v 17, .p (.len false), [.v 16], none⟩,
    ⟨.v 18, .p .mv, [.k (.m (.i .i64 0))], none⟩])
  (.blk 0
  c96_L0))
  (.seq
  (.reg [⟨.l 40, .p .mv, [.v 6], none⟩,
    ⟨.l 41, .l (.cal 126), [.l 40, .k (.m (.fn 128 []))], none⟩])
  (.seq
  (.reg [⟨.l 42, .p .mv, [.v 6], none⟩,
    ⟨.v 4, .p .mv, [.l 42], none⟩,
    ⟨.v 5, .p .mv, [.k (.m (.i .i64 0))], none⟩])
  .ret))))))⟩

/- cellular/pattern.Shift -/
def c97_B0 : C :=
  (.seq
  (.reg [⟨.v 28, .p (.bin .lss), [.v 27, .v 26], none⟩])
  (.seq
  (.ite (.v 28)
    .skip
    (.ex 0))
  (.seq
  (.blk 1
  (.seq
  (.reg [⟨.l 29, .p .mv, [.v 27], none⟩,
    ⟨.v 9, .p .mv, [.l 29], none⟩])
  (.seq
  (.reg [⟨.l 30, .p .mv, [.v 8], none⟩,
    ⟨.l 31, .p .mv, [.v 9], none⟩,
    ⟨.l 32, .p (.ixa 3), [.l 30, .l 31], none⟩,
    ⟨.l 33, .p (.fad 0), [.l 32], none⟩,
    ⟨.l 34, .r (.ld false 1), [.l 33], none⟩,
    ⟨.l 35, .p .mv, [.v 1], none⟩,
    ⟨.l 36, .p (.bin .add), [.l 34, .l 35], none⟩,
    ⟨.l 37, .p (.ixa 3), [.l 30, .l 31], none⟩,
    ⟨.l 38, .p (.fad 0), [.l 37], none⟩,
    ⟨.no, .l (.st 1), [.l 38, .l 36], none⟩])
  (.seq
  (.reg [⟨.l 39, .p .mv, [.v 8], none⟩,
    ⟨.l 40, .p .mv, [.v 9], none⟩,
    ⟨.l 41, .p (.ixa 3), [.l 39, .l 40], none⟩,
    ⟨.l 42, .p (.fad 1), [.l 41], none⟩,
    ⟨.l 43, .r (.ld false 1), [.l 42], none⟩,
    ⟨.l 44, .p .mv, [.v 2], none⟩,
    ⟨.l 45, .p (.bin .add), [.l 43, .l 44], none⟩,
    ⟨.l 46, .p (.ixa 3), [.l 39, .l 40], none⟩,
    ⟨.l 47, .p (.fad 1), [.l 46], none⟩,
    ⟨.no, .l (.st 1), [.l 47, .l 45], none⟩])
  (.seq
  (.reg [⟨.l 48, .p .mv, [.v 8], none⟩,
    ⟨.l 49, .p .mv, [.v 9], none⟩,
    ⟨.l 50, .p (.ixa 3), [.l 48, .l 49], none⟩,
    ⟨.l 51, .r (.ld true 3), [.l 50], none⟩,
    ⟨.l 52, .l (.cal 110), [.l 51], none⟩,
    ⟨.l 53, .l (.cal 109), [.l 52], none⟩,
    ⟨.v 54, .p (.un .not), [.l 53], none⟩])
  (.ite (.v 54)
    (.seq
    (.reg [⟨.v 6, .p .mv, [.k (.m (.nl 4))], none⟩,
      ⟨.v 7, .p .mv, [.k (.m (.i .i64 5))], none⟩])
    .ret)
    .skip))))))
  (.reg [⟨.l 55, .p (.bin .add), [.v 27, .k (.m (.i .i64 1))], none⟩,
    ⟨.v 27, .p .mv, [.l 55], none⟩]))))
def c97_L0 : C := .loop [0, 6, 7, 9, 12, 22, 28, 54] c97_B0
def c97 : F := ⟨3, [.t 6, .t 7],
  (.seq
  (.reg [⟨.v 6, .p .mv, [.k (.m (.nl 4))], none⟩,
    ⟨.v 7, .p .mv, [.k (.m (.i .i64 0))], none⟩])
  (.seq
  (.seq
  (.reg [⟨.l 10, .p .mv, [.v 0], none⟩,
    ⟨.l 11, .l (.cal 73), [.l 10], none⟩,
    ⟨.v 12, .p (.un .not), [.l 11], none⟩])
  (.ite (.v 12)
    (.seq
    (.reg [⟨.v 6, .p .mv, [.k (.m (.nl 4))], none⟩,
      ⟨.v 7, .p .mv, [.k (.m (.i .i64 2))], none⟩])
    .ret)
    .skip))
  (.seq
  (.seq
  (.reg [⟨.l 13, .p .mv, [.v 1], none⟩,
    ⟨.l 14, .p .mv, [.v 2], none⟩,
    ⟨.l 15, .p (.mm true), [.l 13, .l 14], none⟩,
    ⟨.l 16, .p (.bin .gtr), [.l 15, .k (.m (.i .i64 2097152))], none⟩,
    ⟨.l 17, .p .mv, [.l 16], none⟩,
    ⟨.l 18, .p .mv, [.v 1], some (.l 17, false)⟩,
    ⟨.l 19, .p .mv, [.v 2], some (.l 17, false)⟩,
    ⟨.l 20, .p (.mm false), [.l 18, .l 19], some (.l 17, false)⟩,
    ⟨.l 21, .p (.bin .lss), [.l 20, .k (.m (.i .i64 (-2097152)))], some (.l 17, false)⟩,
    ⟨.v 22, .p .pick, [.l 17, .k (.m (.b true)), .l 21], none⟩])
  (.ite (.v 22)
    (.seq
    (.reg [⟨.v 6, .p .mv, [.k (.m (.nl 4))], none⟩,
      ⟨.v 7, .p .mv, [.k (.m (.i .i64 5))], none⟩])
    .ret)
    .skip))
  (.seq
  (.reg [⟨.l 23, .p .mv, [.v 0], none⟩,
    ⟨.l 24, .l (.cal 129), [.l 23], none⟩,
    ⟨.v 8, .p .mv, [.l 24], none⟩])
  (.seq
  (.seq
  (.reg [⟨.l 25, .p .mv, [.v 8], none⟩,
    ⟨.v 26, .p (.len false), [.l 25], none⟩,
    ⟨.v 27, .p .mv, [.k (.m (.i .i64 0))], none⟩])
  (.blk 0
  c97_L0))
  (.seq
  (.reg [⟨.l 56, .p .mv, [.v 8], none⟩,
    ⟨.v 6, .p .mv, [.l 56], none⟩,
    ⟨.v 7, .p .mv, [.k (.m (.i .i64 0))], none⟩])
  .ret))))))⟩

/- cellular/algebra.Home -/
def c98_B0 : C :=
  (.seq
  (.reg [⟨.v 27, .p (.bin .lss), [.v 26, .v 25], none⟩])
  (.seq
  (.ite (.v 27)
    .skip
    (.ex 0))
  (.seq
  (.blk 1
  (.seq
  (.reg [⟨.l 28, .p (.ixa 3), [.v 24, .v 26], none⟩,
    ⟨.l 29, .r (.ld true 3), [.l 28], none⟩,
    ⟨.v 7, .l (.alp 7 [.m (.i .i64 0), .m (.i .i64 0), .m (.i .i64 0)]), [], none⟩,
    ⟨.no, .l (.st 3), [.v 7, .l 29], none⟩])
  (.reg [⟨.l 30, .p .mv, [.v 5], none⟩,
    ⟨.l 31, .p (.fad 0), [.v 7], none⟩,
    ⟨.l 32, .r (.ld false 1), [.l 31], none⟩,
    ⟨.l 33, .p (.fad 0), [.v 3], none⟩,
    ⟨.l 34, .r (.ld false 1), [.l 33], none⟩,
    ⟨.l 35, .p (.bin .sub), [.l 32, .l 34], none⟩,
    ⟨.l 36, .p (.fad 1), [.v 7], none⟩,
    ⟨.l 37, .r (.ld false 1), [.l 36], none⟩,
    ⟨.l 38, .p (.fad 1), [.v 3], none⟩,
    ⟨.l 39, .r (.ld false 1), [.l 38], none⟩,
    ⟨.l 40, .p (.bin .sub), [.l 37, .l 39], none⟩,
    ⟨.l 41, .p (.fad 2), [.v 7], none⟩,
    ⟨.l 42, .r (.ld false 1), [.l 41], none⟩,
    ⟨.l 43, .p (.build [.m (.i .i64 0), .m (.i .i64 0), .m (.i .i64 0)] [(0, 1), (1, 1), (2, 1)]), [.l 35, .l 40, .l 42], none⟩,
    ⟨.l 44, .p (.bsl 3 [.m (.i .i64 0), .m (.i .i64 0), .m (.i .i64 0)] 1 [0]), [.l 43], none⟩,
    ⟨.l 45, .l (.app 113 3 24), [.l 30, .l 44], none⟩,
    ⟨.v 5, .p .mv, [.l 45], none⟩])))
  (.reg [⟨.l 46, .p (.bin .add), [.v 26, .k (.m (.i .i64 1))], none⟩,
    ⟨.v 26, .p .mv, [.l 46], none⟩]))))
def c98_L0 : C := .loop [0, 2, 4, 7, 19, 27] c98_B0
def c98 : F := ⟨1, [.t 2],
  (.seq
  (.reg [⟨.v 2, .p .mv, [.k (.m (.nl 4))], none⟩])
  (.seq
  (.reg [⟨.l 9, .p .mv, [.v 0], none⟩,
    ⟨.l 10, .l (.cal 130), [.l 9], none⟩,
    ⟨.l 8, .p .mv, [.l 10], none⟩,
    ⟨.l 11, .p (.ext 0), [.l 8], none⟩,
    ⟨.l 12, .p (.ext 1), [.l 8], none⟩,
    ⟨.v 3, .l (.alp 3 [.m (.i .i64 0), .m (.i .i64 0), .m (.i .i64 0), .m (.i .i64 0)]), [], none⟩,
    ⟨.no, .l (.st 4), [.v 3, .l 11], none⟩,
    ⟨.v 4, .p .mv, [.l 12], none⟩])
  (.seq
  (.seq
  (.reg [⟨.l 13, .p .mv, [.v 4], none⟩,
    ⟨.l 14, .p (.un .not), [.l 13], none⟩,
    ⟨.l 15, .p .mv, [.l 14], none⟩,
    ⟨.l 16, .p .mv, [.v 0], some (.l 15, false)⟩,
    ⟨.l 17, .l (.cal 73), [.l 16], some (.l 15, false)⟩,
    ⟨.l 18, .p (.un .not), [.l 17], some (.l 15, false)⟩,
    ⟨.v 19, .p .pick, [.l 15, .k (.m (.b true)), .l 18], none⟩])
  (.ite (.v 19)
    (.seq
    (.reg [⟨.l 20, .p .mv, [.v 0], none⟩,
      ⟨.v 2, .p .mv, [.l 20], none⟩])
    .ret)
    .skip))
  (.seq
  (.reg [⟨.l 21, .p .mv, [.v 0], none⟩,
    ⟨.l 22, .p (.len false), [.l 21], none⟩,
    ⟨.l 23, .l (.mks 113 3 [.m (.i .i64 0), .m (.i .i64 0), .m (.i .i64 0)] 24), [.k (.m (.i .i64 0)), .l 22], none⟩,
    ⟨.v 5, .p .mv, [.l 23], none⟩])
  (.seq
  (.seq
  (.reg [⟨.v 24, .p .mv, [.v 0], none⟩,
    ⟨.v 25, .p (.len false), [.v 24], none⟩,
    ⟨.v 26, .p .mv, [.k (.m (.i .i64 0))], none⟩])
  (.blk 0
  c98_L0))
  (.seq
  (.reg [⟨.l 47, .p .mv, [.v 5], none⟩,
    ⟨.v 2, .p .mv, [.l 47], none⟩])
  .ret))))))⟩

/- cellular/quad.New -/
def c99 : F := ⟨1, [.t 2, .t 3],
  (.seq
  (.reg [⟨.v 2, .p .mv, [.k (.m (.nl 0))], none⟩,
    ⟨.v 3, .p .mv, [.k (.m (.i .i64 0))], none⟩])
  (.seq
  (.seq
  (.reg [⟨.l 4, .p .mv, [.v 0], none⟩,
    ⟨.l 5, .p (.bin .lss), [.l 4, .k (.m (.i .i64 2))], none⟩,
    ⟨.l 6, .p .mv, [.l 5], none⟩,
    ⟨.l 7, .p .mv, [.v 0], some (.l 6, false)⟩,
    ⟨.l 8, .p (.bin .gtr), [.l 7, .k (.m (.i .i64 8))], some (.l 6, false)⟩,
    ⟨.v 9, .p .pick, [.l 6, .k (.m (.b true)), .l 8], none⟩])
  (.ite (.v 9)
    (.seq
    (.reg [⟨.v 2, .p .mv, [.k (.m (.nl 0))], none⟩,
      ⟨.v 3, .p .mv, [.k (.m (.i .i64 2))], none⟩])
    .ret)
    .skip))
  (.seq
  (.reg [⟨.l 10, .p .mv, [.v 0], none⟩,
    ⟨.l 11, .l .mkm, [], none⟩,
    ⟨.l 12, .p (.build [.m (.i .i64 0), .m (.nl 4), .m (.nl 4), .m (.nl 1)] [(0, 1), (3, 1)]), [.l 10, .l 11], none⟩,
    ⟨.v 13, .l (.bxs 165 4 1), [.l 12], none⟩,
    ⟨.v 2, .p .mv, [.v 13], none⟩,
    ⟨.v 3, .p .mv, [.k (.m (.i .i64 0))], none⟩])
  .ret)))⟩

/- (*cellular/quad.Store).Join -/
def c100_B0 : C :=
  (.seq
  (.reg [⟨.v 29, .p (.bin .lss), [.v 28, .k (.m (.i .i64 4))], none⟩])
  (.seq
  (.ite (.v 29)
    .skip
    (.ex 0))
  (.seq
  (.blk 1
  (.seq
  (.reg [⟨.l 30, .p .mv, [.v 28], none⟩,
    ⟨.l 31, .p (.ixv 4 1 false), [.v 27, .v 28], none⟩,
    ⟨.v 14, .p .mv, [.l 30], none⟩,
    ⟨.v 15, .p .mv, [.l 31], none⟩])
  (.seq
  (.reg [⟨.l 32, .p .mv, [.v 14], none⟩,
    ⟨.l 33, .p .mv, [.v 0], none⟩,
    ⟨.l 34, .p .mv, [.v 15], none⟩,
    ⟨.l 35, .l (.cal 131), [.l 33, .l 34], none⟩,
    ⟨.l 36, .p (.ixaA 4 1), [.v 13, .l 32], none⟩,
    ⟨.no, .l (.st 1), [.l 36, .l 35], none⟩])
  (.seq
  (.reg [⟨.l 37, .p .mv, [.v 14], none⟩,
    ⟨.l 38, .p (.ixaA 4 1), [.v 13, .l 37], none⟩,
    ⟨.l 39, .r (.ld false 1), [.l 38], none⟩,
    ⟨.v 40, .p (.bin .lss), [.l 39, .k (.m (.i .i64 0))], none⟩])
  (.ite (.v 40)
    (.seq
    (.reg [⟨.v 10, .p .mv, [.k (.m (.i .i64 0))], none⟩,
      ⟨.v 11, .p .mv, [.k (.m (.i .i64 13))], none⟩])
    .ret)
    .skip)))))
  (.reg [⟨.l 41, .p (.bin .add), [.v 28, .k (.m (.i .i64 1))], none⟩,
    ⟨.v 28, .p .mv, [.l 41], none⟩]))))
def c100_L0 : C := .loop [1, 2, 3, 4, 10, 11, 14, 15, 21, 29, 40] c100_B0
def c100 : F := ⟨5, [.t 10, .t 11],
  (.seq
  (.reg [⟨.v 10, .p .mv, [.k (.m (.i .i64 0))], none⟩,
    ⟨.v 11, .p .mv, [.k (.m (.i .i64 0))], none⟩])
  (.seq
  (.seq
  (.reg [⟨.l 20, .p .mv, [.v 0], none⟩,
    ⟨.v 21, .p (.eqn false 0), [.l 20], none⟩])
  (.ite (.v 21)
    (.seq
    (.reg [⟨.v 10, .p .mv, [.k (.m (.i .i64 0))], none⟩,
      ⟨.v 11, .p .mv, [.k (.m (.i .i64 1))], none⟩])
    .ret)
    .skip))
  (.seq
  (.reg [⟨.l 22, .p .mv, [.v 1], none⟩,
    ⟨.l 23, .p .mv, [.v 2], none⟩,
    ⟨.l 24, .p .mv, [.v 3], none⟩,
    ⟨.l 25, .p .mv, [.v 4], none⟩,
    ⟨.l 26, .p (.build [.m (.i .i64 0), .m (.i .i64 0), .m (.i .i64 0), .m (.i .i64 0)] [(0, 1), (1, 1), (2, 1), (3, 1)]), [.l 22, .l 23, .l 24, .l 25], none⟩,
    ⟨.v 12, .l (.alp 12 [.m (.i .i64 0), .m (.i .i64 0), .m (.i .i64 0), .m (.i .i64 0)]), [], none⟩,
    ⟨.no, .l (.st 4), [.v 12, .l 26], none⟩])
  (.seq
  (.reg [⟨.v 13, .l (.alp 13 [.m (.i .i64 0), .m (.i .i64 0), .m (.i .i64 0), .m (.i .i64 0)]), [], none⟩])
  (.seq
  (.seq
  (.reg [⟨.v 27, .r (.ld true 4), [.v 12], none⟩,
    ⟨.v 28, .p .mv, [.k (.m (.i .i64 0))], none⟩])
  (.blk 0
  c100_L0))
  (.seq
  (.seq
  (.reg [⟨.l 42, .p (.ixaA 4 1), [.v 13, .k (.m (.i .i64 0))], none⟩,
    ⟨.l 43, .r (.ld false 1), [.l 42], none⟩,
    ⟨.v 16, .p .mv, [.l 43], none⟩])
  (.seq
  (.reg [⟨.l 44, .r (.ld true 4), [.v 13], none⟩,
    ⟨.l 45, .p .mv, [.v 16], none⟩,
    ⟨.l 46, .p .mv, [.v 16], none⟩,
    ⟨.l 47, .p .mv, [.v 16], none⟩,
    ⟨.l 48, .p .mv, [.v 16], none⟩,
    ⟨.l 49, .p (.build [.m (.i .i64 0), .m (.i .i64 0), .m (.i .i64 0), .m (.i .i64 0)] [(0, 1), (1, 1), (2, 1), (3, 1)]), [.l 45, .l 46, .l 47, .l 48], none⟩,
    ⟨.l 50, .p (.eqs true [1, 1, 1, 1]), [.l 44, .l 49], none⟩,
    ⟨.l 51, .p .mv, [.l 50], none⟩,
    ⟨.l 52, .p .mv, [.v 16], some (.l 51, false)⟩,
    ⟨.l 53, .p (.bin .geq), [.l 52, .k (.m (.i .i64 256))], some (.l 51, false)⟩,
    ⟨.v 54, .p .pick, [.l 51, .k (.m (.b true)), .l 53], none⟩])
  (.ite (.v 54)
    (.seq
    (.reg [⟨.v 10, .p .mv, [.k (.m (.i .i64 0))], none⟩,
      ⟨.v 11, .p .mv, [.k (.m (.i .i64 18))], none⟩])
    .ret)
    .skip)))
  (.seq
  (.seq
  (.reg [⟨.l 56, .p .mv, [.v 0], none⟩,
    ⟨.l 57, .p .nck, [.l 56], none⟩,
    ⟨.l 58, .p (.fad 3), [.l 57], none⟩,
    ⟨.l 59, .r (.ld false 1), [.l 58], none⟩,
    ⟨.l 60, .r (.ld true 4), [.v 12], none⟩,
    ⟨.l 61, .r (.lkp ⟨true, [1, 1, 1, 1]⟩ [.m (.i .i64 0)] false true), [.l 59, .l 60], none⟩,
    ⟨.l 55, .p .mv, [.l 61], none⟩,
    ⟨.l 62, .p (.ext 0), [.l 55], none⟩,
    ⟨.l 63, .p (.ext 1), [.l 55], none⟩,
    ⟨.v 17, .p .mv, [.l 62], none⟩,
    ⟨.v 18, .p .mv, [.l 63], none⟩])
  (.seq
  (.reg [⟨.v 64, .p .mv, [.v 18], none⟩])
  (.ite (.v 64)
    (.seq
    (.reg [⟨.l 65, .p .mv, [.v 17], none⟩,
      ⟨.v 10, .p .mv, [.l 65], none⟩,
      ⟨.v 11, .p .mv, [.k (.m (.i .i64 0))], none⟩])
    .ret)
    .skip)))
  (.seq
  (.seq
  (.reg [⟨.l 66, .p .mv, [.v 0], none⟩,
    ⟨.l 67, .p .nck, [.l 66], none⟩,
    ⟨.l 68, .p (.fad 1), [.l 67], none⟩,
    ⟨.l 69, .r (.ld false 1), [.l 68], none⟩,
    ⟨.l 70, .p (.len false), [.l 69], none⟩,
    ⟨.v 71, .p (.bin .geq), [.l 70, .k (.m (.i .i64 100000))], none⟩])
  (.ite (.v 71)
    (.seq
    (.reg [⟨.v 10, .p .mv, [.k (.m (.i .i64 0))], none⟩,
      ⟨.v 11, .p .mv, [.k (.m (.i .i64 6))], none⟩])
    .ret)
    .skip))
  (.seq
  (.reg [⟨.l 72, .p .mv, [.v 0], none⟩,
    ⟨.l 73, .p .nck, [.l 72], none⟩,
    ⟨.l 74, .p (.fad 0), [.l 73], none⟩,
    ⟨.l 75, .r (.ld false 1), [.l 74], none⟩,
    ⟨.l 76, .p .mv, [.v 0], none⟩,
    ⟨.l 77, .p .nck, [.l 76], none⟩,
    ⟨.l 78, .p (.fad 1), [.l 77], none⟩,
    ⟨.l 79, .r (.ld false 1), [.l 78], none⟩,
    ⟨.l 80, .p (.len false), [.l 79], none⟩,
    ⟨.l 81, .p (.bin .add), [.l 75, .l 80], none⟩,
    ⟨.v 19, .p .mv, [.l 81], none⟩])
  (.seq
  (.reg [⟨.l 82, .p .mv, [.v 0], none⟩,
    ⟨.l 83, .p .mv, [.v 0], none⟩,
    ⟨.l 84, .p .nck, [.l 83], none⟩,
    ⟨.l 85, .p (.fad 1), [.l 84], none⟩,
    ⟨.l 86, .r (.ld false 1), [.l 85], none⟩,
    ⟨.l 87, .r (.ld true 4), [.v 12], none⟩,
    ⟨.l 88, .p (.build [.m (.i .i64 0), .m (.i .i64 0), .m (.i .i64 0), .m (.i .i64 0)] [(0, 4)]), [.l 87], none⟩,
    ⟨.l 89, .p (.bsl 4 [.m (.i .i64 0), .m (.i .i64 0), .m (.i .i64 0), .m (.i .i64 0)] 1 [0]), [.l 88], none⟩,
    ⟨.l 90, .l (.app 49 4 32), [.l 86, .l 89], none⟩,
    ⟨.l 91, .p .nck, [.l 82], none⟩,
    ⟨.l 92, .p (.fad 1), [.l 91], none⟩,
    ⟨.no, .l (.st 1), [.l 92, .l 90], none⟩])
  (.seq
  (.reg [⟨.l 93, .p .mv, [.v 0], none⟩,
    ⟨.l 94, .p .mv, [.v 0], none⟩,
    ⟨.l 95, .p .nck, [.l 94], none⟩,
    ⟨.l 96, .p (.fad 2), [.l 95], none⟩,
    ⟨.l 97, .r (.ld false 1), [.l 96], none⟩,
    ⟨.l 98, .p (.ixaA 4 1), [.v 13, .k (.m (.i .i64 0))], none⟩,
    ⟨.l 99, .r (.ld false 1), [.l 98], none⟩,
    ⟨.l 100, .p (.bin .add), [.l 99, .k (.m (.i .i64 1))], none⟩,
    ⟨.l 101, .p (.bsl 1 [.m (.i .i64 0)] 1 [0]), [.l 100], none⟩,
    ⟨.l 102, .l (.app 3 1 8), [.l 97, .l 101], none⟩,
    ⟨.l 103, .p .nck, [.l 93], none⟩,
    ⟨.l 104, .p (.fad 2), [.l 103], none⟩,
    ⟨.no, .l (.st 1), [.l 104, .l 102], none⟩])
  (.seq
  (.reg [⟨.l 105, .p .mv, [.v 0], none⟩,
    ⟨.l 106, .p .nck, [.l 105], none⟩,
    ⟨.l 107, .p (.fad 3), [.l 106], none⟩,
    ⟨.l 108, .r (.ld false 1), [.l 107], none⟩,
    ⟨.l 109, .r (.ld true 4), [.v 12], none⟩,
    ⟨.l 110, .p .mv, [.v 19], none⟩,
    ⟨.no, .l (.mup ⟨true, [1, 1, 1, 1]⟩), [.l 108, .l 109, .l 110], none⟩])
  (.seq
  (.reg [⟨.l 111, .p .mv, [.v 19], none⟩,
    ⟨.v 10, .p .mv, [.l 111], none⟩,
    ⟨.v 11, .p .mv, [.k (.m (.i .i64 0))], none⟩])
  .ret)))))))))))))⟩

/- cmp.Or[int] -/
def c101_B0 : C :=
  (.seq
  (.reg [⟨.v 9, .p (.bin .lss), [.v 8, .v 7], none⟩])
  (.seq
  (.ite (.v 9)
    .skip
    (.ex 0))
  (.seq
  (.blk 1
  (.seq
  (.reg [⟨.l 10, .p (.ixa 1), [.v 6, .v 8], none⟩,
    ⟨.l 11, .r (.ld false 1), [.l 10], none⟩,
    ⟨.v 5, .p .mv, [.l 11], none⟩])
  (.seq
  (.reg [⟨.l 12, .p .mv, [.v 5], none⟩,
    ⟨.l 13, .p .mv, [.v 3], none⟩,
    ⟨.v 14, .p (.bin .neq), [.l 12, .l 13], none⟩])
  (.ite (.v 14)
    (.seq
    (.reg [⟨.l 15, .p .mv, [.v 5], none⟩,
      ⟨.v 2, .p .mv, [.l 15], none⟩])
    .ret)
    .skip))))
  (.reg [⟨.l 16, .p (.bin .add), [.v 8, .k (.m (.i .i64 1))], none⟩,
    ⟨.v 8, .p .mv, [.l 16], none⟩]))))
def c101_L0 : C := .loop [0, 2, 5, 9, 14] c101_B0
def c101 : F := ⟨1, [.t 2],
  (.seq
  (.reg [⟨.v 2, .p .mv, [.k (.m (.i .i64 0))], none⟩])
  (.seq
  (.reg [⟨.v 3, .p .mv, [.k (.m (.i .i64 0))], none⟩])
  (.seq
  (.seq
  (.reg [⟨.v 6, .p .mv, [.v 0], none⟩,
    ⟨.v 7, .p (.len false), [.v 6], none⟩,
    ⟨.v 8, .p .mv, [.k (.m (.i .i64 0))], none⟩])
  (.blk 0
  c101_L0))
  (.seq
  (.reg [⟨.l 17, .p .mv, [.v 3], none⟩,
    ⟨.v 2, .p .mv, [.l 17], none⟩])
  .ret))))⟩

/- cmp.Compare[int] -/
def c102 : F := ⟨2, [.t 4],
  (.seq
  (.reg [⟨.v 4, .p .mv, [.k (.m (.i .i64 0))], none⟩])
  (.seq
  (.reg [⟨.l 7, .p .mv, [.v 0], none⟩,
    ⟨.l 8, .l (.cal 132), [.l 7], none⟩,
    ⟨.v 5, .p .mv, [.l 8], none⟩])
  (.seq
  (.reg [⟨.l 9, .p .mv, [.v 1], none⟩,
    ⟨.l 10, .l (.cal 132), [.l 9], none⟩,
    ⟨.v 6, .p .mv, [.l 10], none⟩])
  (.seq
  (.seq
  (.reg [⟨.v 11, .p .mv, [.v 5], none⟩])
  (.ite (.v 11)
    (.seq
    (.seq
    (.reg [⟨.v 12, .p .mv, [.v 6], none⟩])
    (.ite (.v 12)
      (.seq
      (.reg [⟨.v 4, .p .mv, [.k (.m (.i .i64 0))], none⟩])
      .ret)
      .skip))
    (.seq
    (.reg [⟨.v 4, .p .mv, [.k (.m (.i .i64 (-1)))], none⟩])
    .ret))
    .skip))
  (.seq
  (.seq
  (.reg [⟨.v 13, .p .mv, [.v 6], none⟩])
  (.ite (.v 13)
    (.seq
    (.reg [⟨.v 4, .p .mv, [.k (.m (.i .i64 1))], none⟩])
    .ret)
    .skip))
  (.seq
  (.seq
  (.reg [⟨.l 14, .p .mv, [.v 0], none⟩,
    ⟨.l 15, .p .mv, [.v 1], none⟩,
    ⟨.v 16, .p (.bin .lss), [.l 14, .l 15], none⟩])
  (.ite (.v 16)
    (.seq
    (.reg [⟨.v 4, .p .mv, [.k (.m (.i .i64 (-1)))], none⟩])
    .ret)
    .skip))
  (.seq
  (.seq
  (.reg [⟨.l 17, .p .mv, [.v 0], none⟩,
    ⟨.l 18, .p .mv, [.v 1], none⟩,
    ⟨.v 19, .p (.bin .gtr), [.l 17, .l 18], none⟩])
  (.ite (.v 19)
    (.seq
    (.reg [⟨.v 4, .p .mv, [.k (.m (.i .i64 1))], none⟩])
    .ret)
    .skip))
  (.seq
  (.reg [⟨.v 4, .p .mv, [.k (.m (.i .i64 0))], none⟩])
  .ret))))))))⟩

/- slices.Equal[[]cellular/api.Point,cellular/api.Point] -/
def c103_B0 : C :=
  (.seq
  (.reg [⟨.v 14, .p (.bin .lss), [.v 13, .v 12], none⟩])
  (.seq
  (.ite (.v 14)
    .skip
    (.ex 0))
  (.seq
  (.blk 1
  (.seq
  (.reg [⟨.l 15, .p .mv, [.v 13], none⟩,
    ⟨.v 5, .p .mv, [.l 15], none⟩])
  (.seq
  (.reg [⟨.l 16, .p .mv, [.v 0], none⟩,
    ⟨.l 17, .p .mv, [.v 5], none⟩,
    ⟨.l 18, .p (.ixa 2), [.l 16, .l 17], none⟩,
    ⟨.l 19, .r (.ld true 2), [.l 18], none⟩,
    ⟨.l 20, .p .mv, [.v 1], none⟩,
    ⟨.l 21, .p .mv, [.v 5], none⟩,
    ⟨.l 22, .p (.ixa 2), [.l 20, .l 21], none⟩,
    ⟨.l 23, .r (.ld true 2), [.l 22], none⟩,
    ⟨.v 24, .p (.eqs true [1, 1]), [.l 19, .l 23], none⟩])
  (.ite (.v 24)
    (.seq
    (.reg [⟨.v 4, .p .mv, [.k (.m (.b false))], none⟩])
    .ret)
    .skip))))
  (.reg [⟨.l 25, .p (.bin .add), [.v 13, .k (.m (.i .i64 1))], none⟩,
    ⟨.v 13, .p .mv, [.l 25], none⟩]))))
def c103_L0 : C := .loop [4, 5, 10, 14, 24] c103_B0
def c103 : F := ⟨2, [.t 4],
  (.seq
  (.reg [⟨.v 4, .p .mv, [.k (.m (.b false))], none⟩])
  (.seq
  (.seq
  (.reg [⟨.l 6, .p .mv, [.v 0], none⟩,
    ⟨.l 7, .p (.len false), [.l 6], none⟩,
    ⟨.l 8, .p .mv, [.v 1], none⟩,
    ⟨.l 9, .p (.len false), [.l 8], none⟩,
    ⟨.v 10, .p (.bin .neq), [.l 7, .l 9], none⟩])
  (.ite (.v 10)
    (.seq
    (.reg [⟨.v 4, .p .mv, [.k (.m (.b false))], none⟩])
    .ret)
    .skip))
  (.seq
  (.seq
  (.reg [⟨.l 11, .p .mv, [.v 0], none⟩,
    ⟨.v 12, .p (.len false), [.l 11], none⟩,
    ⟨.v 13, .p .mv, [.k (.m (.i .i64 0))], none⟩])
  (.blk 0
  c103_L0))
  (.seq
  (.reg [⟨.v 4, .p .mv, [.k (.m (.b true))], none⟩])
  .ret))))⟩

/- slices.Clone[[]int,int] -/
def c104 : F := ⟨1, [.t 2],
  (.seq
  (.reg [⟨.v 2, .p .mv, [.k (.m (.nl 4))], none⟩])
  (.seq
  (.seq
  (.reg [⟨.l 3, .p .mv, [.v 0], none⟩,
    ⟨.v 4, .p (.eqn false 4), [.l 3], none⟩])
  (.ite (.v 4)
    (.seq
    (.reg [⟨.v 2, .p .mv, [.k (.m (.nl 4))], none⟩])
    .ret)
    .skip))
  (.seq
  (.reg [⟨.l 5, .p (.bsl 1 [.m (.i .i64 0)] 0 []), [], none⟩,
    ⟨.l 6, .p .mv, [.v 0], none⟩,
    ⟨.l 7, .l (.app 3 1 8), [.l 5, .l 6], none⟩,
    ⟨.v 2, .p .mv, [.l 7], none⟩])
  .ret)))⟩

/- (*cellular/reduce.builder).node -/
def c105_B0 : C :=
  (.seq
  (.reg [⟨.v 17, .p (.bin .lss), [.v 16, .v 15], none⟩])
  (.seq
  (.ite (.v 17)
    .skip
    (.ex 0))
  (.seq
  (.blk 1
  (.seq
  (.reg [⟨.l 18, .p (.ixa 1), [.v 14, .v 16], none⟩,
    ⟨.l 19, .r (.ld false 1), [.l 18], none⟩,
    ⟨.v 9, .p .mv, [.l 19], none⟩])
  (.reg [⟨.l 20, .p .mv, [.v 7], none⟩,
    ⟨.l 21, .p (.bsl 1 [.m (.i .u8 0)] 1 [0]), [.k (.m (.i .u8 32))], none⟩,
    ⟨.l 22, .l (.app 5 1 1), [.l 20, .l 21], none⟩,
    ⟨.l 23, .p .mv, [.v 9], none⟩,
    ⟨.l 24, .l (.cal 133), [.l 22, .l 23, .k (.m (.i .i64 10))], none⟩,
    ⟨.v 7, .p .mv, [.l 24], none⟩])))
  (.reg [⟨.l 25, .p (.bin .add), [.v 16, .k (.m (.i .i64 1))], none⟩,
    ⟨.v 16, .p .mv, [.l 25], none⟩]))))
def c105_L0 : C := .loop [6, 9, 17] c105_B0
def c105 : F := ⟨3, [.t 6],
  (.seq
  (.reg [⟨.v 6, .p .mv, [.k (.m (.i .i64 0))], none⟩])
  (.seq
  (.reg [⟨.l 12, .p .mv, [.v 1], none⟩,
    ⟨.l 13, .l (.cal 133), [.k (.m (.nl 4)), .l 12, .k (.m (.i .i64 10))], none⟩,
    ⟨.v 7, .p .mv, [.l 13], none⟩])
  (.seq
  (.seq
  (.reg [⟨.v 14, .p .mv, [.v 2], none⟩,
    ⟨.v 15, .p (.len false), [.v 14], none⟩,
    ⟨.v 16, .p .mv, [.k (.m (.i .i64 0))], none⟩])
  (.blk 0
  c105_L0))
  (.seq
  (.seq
  (.reg [⟨.l 27, .p .mv, [.v 0], none⟩,
    ⟨.l 28, .p .nck, [.l 27], none⟩,
    ⟨.l 29, .p (.fad 1), [.l 28], none⟩,
    ⟨.l 30, .r (.ld false 1), [.l 29], none⟩,
    ⟨.l 31, .p .mv, [.v 7], none⟩,
    ⟨.l 32, .r .b2s, [.l 31], none⟩,
    ⟨.l 33, .r (.lkp ⟨false, [2]⟩ [.m (.i .i64 0)] false true), [.l 30, .l 32], none⟩,
    ⟨.l 26, .p .mv, [.l 33], none⟩,
    ⟨.l 34, .p (.ext 0), [.l 26], none⟩,
    ⟨.l 35, .p (.ext 1), [.l 26], none⟩,
    ⟨.v 10, .p .mv, [.l 34], none⟩,
    ⟨.v 11, .p .mv, [.l 35], none⟩])
  (.seq
  (.reg [⟨.v 36, .p .mv, [.v 11], none⟩])
  (.ite (.v 36)
    (.seq
    (.reg [⟨.l 37, .p .mv, [.v 10], none⟩,
      ⟨.v 6, .p .mv, [.l 37], none⟩])
    .ret)
    .skip)))
  (.seq
  (.reg [⟨.l 38, .p .mv, [.v 0], none⟩,
    ⟨.l 39, .p .mv, [.v 0], none⟩,
    ⟨.l 40, .p .nck, [.l 39], none⟩,
    ⟨.l 41, .p (.fad 0), [.l 40], none⟩,
    ⟨.l 42, .r (.ld false 1), [.l 41], none⟩,
    ⟨.l 43, .p .mv, [.v 1], none⟩,
    ⟨.l 44, .p .mv, [.v 2], none⟩,
    ⟨.l 45, .p (.build [.m (.i .i64 0), .m (.nl 4)] [(0, 1), (1, 1)]), [.l 43, .l 44], none⟩,
    ⟨.l 46, .l (.bsf 2 [.m (.i .i64 0), .m (.nl 4)] 1 [0]), [.l 45], none⟩,
    ⟨.l 47, .l (.app 52 2 32), [.l 42, .l 46], none⟩,
    ⟨.l 48, .p .nck, [.l 38], none⟩,
    ⟨.l 49, .p (.fad 0), [.l 48], none⟩,
    ⟨.no, .l (.st 1), [.l 49, .l 47], none⟩])
  (.seq
  (.reg [⟨.l 50, .p .mv, [.v 0], none⟩,
    ⟨.l 51, .p .nck, [.l 50], none⟩,
    ⟨.l 52, .p (.fad 1), [.l 51], none⟩,
    ⟨.l 53, .r (.ld false 1), [.l 52], none⟩,
    ⟨.l 54, .p .mv, [.v 7], none⟩,
    ⟨.l 55, .r .b2s, [.l 54], none⟩,
    ⟨.l 56, .p .mv, [.v 0], none⟩,
    ⟨.l 57, .p .nck, [.l 56], none⟩,
    ⟨.l 58, .p (.fad 0), [.l 57], none⟩,
    ⟨.l 59, .r (.ld false 1), [.l 58], none⟩,
    ⟨.l 60, .p (.len false), [.l 59], none⟩,
    ⟨.l 61, .p (.bin .sub), [.l 60, .k (.m (.i .i64 1))], none⟩,
    ⟨.no, .l (.mup ⟨false, [2]⟩), [.l 53, .l 55, .l 61], none⟩])
  (.seq
  (.reg [⟨.l 62, .p .mv, [.v 0], none⟩,
    ⟨.l 63, .p .nck, [.l 62], none⟩,
    ⟨.l 64, .p (.fad 0), [.l 63], none⟩,
    ⟨.l 65, .r (.ld false 1), [.l 64], none⟩,
    ⟨.l 66, .p (.len false), [.l 65], none⟩,
    ⟨.l 67, .p (.bin .sub), [.l 66, .k (.m (.i .i64 1))], none⟩,
    ⟨.v 6, .p .mv, [.l 67], none⟩])
  .ret)))))))⟩

/- slices.Clone[[]cellular/api.Point,cellular/api.Point] -/
def c106 : F := ⟨1, [.t 2],
  (.seq
  (.reg [⟨.v 2, .p .mv, [.k (.m (.nl 4))], none⟩])
  (.seq
  (.seq
  (.reg [⟨.l 3, .p .mv, [.v 0], none⟩,
    ⟨.v 4, .p (.eqn false 4), [.l 3], none⟩])
  (.ite (.v 4)
    (.seq
    (.reg [⟨.v 2, .p .mv, [.k (.m (.nl 4))], none⟩])
    .ret)
    .skip))
  (.seq
  (.reg [⟨.l 5, .p (.bsl 2 [.m (.i .i64 0), .m (.i .i64 0)] 0 []), [], none⟩,
    ⟨.l 6, .p .mv, [.v 0], none⟩,
    ⟨.l 7, .l (.app 46 2 16), [.l 5, .l 6], none⟩,
    ⟨.v 2, .p .mv, [.l 7], none⟩])
  .ret)))⟩

/- cellular/reduce.ordered -/
def c107 : F := ⟨2, [.t 4],
  (.seq
  (.reg [⟨.v 2, .l (.bxs 29 1 1), [.v 0], none⟩,
    ⟨.v 4, .p .mv, [.k (.m (.nl 4))], none⟩])
  (.seq
  (.reg [⟨.l 8, .r (.ld false 1), [.v 2], none⟩,
    ⟨.l 9, .p (.len false), [.l 8], none⟩,
    ⟨.l 10, .l (.mks 3 1 [.m (.i .i64 0)] 8), [.l 9, .l 9], none⟩,
    ⟨.v 5, .l (.als 50 1 1 [.m (.nl 4)]), [], none⟩,
    ⟨.no, .l (.st 1), [.v 5, .l 10], none⟩])
  (.seq
  (.reg [⟨.v 6, .l (.als 29 1 1 [.m (.nl 4)]), [], none⟩])
  (.seq
  (.reg [⟨.v 7, .l (.als 166 1 1 [.m (.nl 2)]), [], none⟩])
  (.seq
  (.reg [⟨.l 11, .p (.mkf 134), [.v 5, .v 2, .v 7, .v 6], none⟩,
    ⟨.no, .l (.st 1), [.v 7, .l 11], none⟩])
  (.seq
  (.reg [⟨.l 12, .r (.ld false 1), [.v 7], none⟩,
    ⟨.l 13, .p .mv, [.v 1], none⟩,
    ⟨.l 14, .l .cav, [.l 12, .l 13], none⟩])
  (.seq
  (.reg [⟨.l 15, .r (.ld false 1), [.v 6], none⟩,
    ⟨.v 4, .p .mv, [.l 15], none⟩])
  .ret)))))))⟩

/- cellular/pattern.placed -/
def c109 : F := ⟨1, [.t 2],
  (.seq
  (.reg [⟨.v 1, .l (.bxp 1 2), [.v 0], none⟩,
    ⟨.v 2, .p .mv, [.k (.m (.b false))], none⟩])
  (.seq
  (.reg [⟨.l 3, .p (.fad 0), [.v 1], none⟩,
    ⟨.l 4, .r (.ld false 1), [.l 3], none⟩,
    ⟨.l 5, .p (.fad 1), [.v 1], none⟩,
    ⟨.l 6, .r (.ld false 1), [.l 5], none⟩,
    ⟨.l 7, .p (.mm true), [.l 4, .l 6], none⟩,
    ⟨.l 8, .p (.bin .leq), [.l 7, .k (.m (.i .i64 1048576))], none⟩,
    ⟨.l 9, .p .mv, [.l 8], none⟩,
    ⟨.l 10, .p (.fad 0), [.v 1], some (.l 9, true)⟩,
    ⟨.l 11, .r (.ld false 1), [.l 10], some (.l 9, true)⟩,
    ⟨.l 12, .p (.fad 1), [.v 1], some (.l 9, true)⟩,
    ⟨.l 13, .r (.ld false 1), [.l 12], some (.l 9, true)⟩,
    ⟨.l 14, .p (.mm false), [.l 11, .l 13], some (.l 9, true)⟩,
    ⟨.l 15, .p (.bin .geq), [.l 14, .k (.m (.i .i64 (-1048576)))], some (.l 9, true)⟩,
    ⟨.l 16, .p .pick, [.l 9, .l 15, .k (.m (.b false))], none⟩,
    ⟨.v 2, .p .mv, [.l 16], none⟩])
  .ret))⟩

/- cellular/pattern.at -/
def c110 : F := ⟨1, [.c 2 2 true],
  (.seq
  (.reg [⟨.v 1, .l (.bxp 1 3), [.v 0], none⟩,
    ⟨.v 2, .l (.alp 2 [.m (.i .i64 0), .m (.i .i64 0)]), [], none⟩])
  (.seq
  (.reg [⟨.l 3, .p (.fad 0), [.v 1], none⟩,
    ⟨.l 4, .r (.ld false 1), [.l 3], none⟩,
    ⟨.l 5, .p (.fad 1), [.v 1], none⟩,
    ⟨.l 6, .r (.ld false 1), [.l 5], none⟩,
    ⟨.l 7, .p (.build [.m (.i .i64 0), .m (.i .i64 0)] [(0, 1), (1, 1)]), [.l 4, .l 6], none⟩,
    ⟨.no, .l (.st 2), [.v 2, .l 7], none⟩])
  .ret))⟩

/- cellular/pattern.order -/
def c111 : F := ⟨2, [.t 4],
  (.seq
  (.reg [⟨.v 2, .l (.bxp 2 3), [.v 0], none⟩,
    ⟨.v 3, .l (.bxp 3 3), [.v 1], none⟩,
    ⟨.v 4, .p .mv, [.k (.m (.i .i64 0))], none⟩])
  (.seq
  (.reg [⟨.l 5, .r (.ld true 3), [.v 2], none⟩,
    ⟨.l 6, .l (.cal 110), [.l 5], none⟩,
    ⟨.l 7, .r (.ld true 3), [.v 3], none⟩,
    ⟨.l 8, .l (.cal 110), [.l 7], none⟩,
    ⟨.l 9, .l (.cal 59), [.l 6, .l 8], none⟩,
    ⟨.v 4, .p .mv, [.l 9], none⟩])
  .ret))⟩

/- cellular/delta.state -/
def c112 : F := ⟨1, [.t 2],
  (.seq
  (.reg [⟨.v 2, .p .mv, [.k (.m (.b false))], none⟩])
  (.seq
  (.reg [⟨.l 3, .p .mv, [.v 0], none⟩,
    ⟨.l 4, .p (.bin .geq), [.l 3, .k (.m (.i .i64 0))], none⟩,
    ⟨.l 5, .p .mv, [.l 4], none⟩,
    ⟨.l 6, .p .mv, [.v 0], some (.l 5, true)⟩,
    ⟨.l 7, .p (.bin .lss), [.l 6, .k (.m (.i .i64 8))], some (.l 5, true)⟩,
    ⟨.l 8, .p .pick, [.l 5, .l 7, .k (.m (.b false))], none⟩,
    ⟨.v 2, .p .mv, [.l 8], none⟩])
  .ret))⟩

/- cellular/delta.order -/
def c113 : F := ⟨2, [.t 4],
  (.seq
  (.reg [⟨.v 2, .l (.bxp 2 4), [.v 0], none⟩,
    ⟨.v 3, .l (.bxp 3 4), [.v 1], none⟩,
    ⟨.v 4, .p .mv, [.k (.m (.i .i64 0))], none⟩])
  (.seq
  (.reg [⟨.l 5, .r (.ld true 4), [.v 2], none⟩,
    ⟨.l 6, .l (.cal 115), [.l 5], none⟩,
    ⟨.l 7, .r (.ld true 4), [.v 3], none⟩,
    ⟨.l 8, .l (.cal 115), [.l 7], none⟩,
    ⟨.l 9, .l (.cal 59), [.l 6, .l 8], none⟩,
    ⟨.v 4, .p .mv, [.l 9], none⟩])
  .ret))⟩

/- cellular/delta.cells -/
def c114_B0 : C :=
  (.seq
  (.reg [⟨.v 12, .p (.bin .lss), [.v 11, .v 10], none⟩])
  (.seq
  (.ite (.v 12)
    .skip
    (.ex 0))
  (.seq
  (.blk 1
  (.seq
  (.reg [⟨.l 13, .p (.ixa 3), [.v 9, .v 11], none⟩,
    ⟨.l 14, .r (.ld true 3), [.l 13], none⟩,
    ⟨.v 5, .l (.alp 5 [.m (.i .i64 0), .m (.i .i64 0), .m (.i .i64 0)]), [], none⟩,
    ⟨.no, .l (.st 3), [.v 5, .l 14], none⟩])
  (.reg [⟨.l 15, .p .mv, [.v 3], none⟩,
    ⟨.l 16, .p (.fad 0), [.v 5], none⟩,
    ⟨.l 17, .r (.ld false 1), [.l 16], none⟩,
    ⟨.l 18, .p (.fad 1), [.v 5], none⟩,
    ⟨.l 19, .r (.ld false 1), [.l 18], none⟩,
    ⟨.l 20, .p (.build [.m (.i .i64 0), .m (.i .i64 0)] [(0, 1), (1, 1)]), [.l 17, .l 19], none⟩,
    ⟨.l 21, .p (.fad 2), [.v 5], none⟩,
    ⟨.l 22, .r (.ld false 1), [.l 21], none⟩,
    ⟨.no, .l (.mup ⟨true, [1, 1]⟩), [.l 15, .l 20, .l 22], none⟩])))
  (.reg [⟨.l 23, .p (.bin .add), [.v 11, .k (.m (.i .i64 1))], none⟩,
    ⟨.v 11, .p .mv, [.l 23], none⟩]))))
def c114_L0 : C := .loop [0, 2, 5, 12] c114_B0
def c114 : F := ⟨1, [.t 2],
  (.seq
  (.reg [⟨.v 2, .p .mv, [.k (.m (.nl 1))], none⟩])
  (.seq
  (.reg [⟨.l 6, .p .mv, [.v 0], none⟩,
    ⟨.l 7, .p (.len false), [.l 6], none⟩,
    ⟨.l 8, .l .mkm, [.l 7], none⟩,
    ⟨.v 3, .p .mv, [.l 8], none⟩])
  (.seq
  (.seq
  (.reg [⟨.v 9, .p .mv, [.v 0], none⟩,
    ⟨.v 10, .p (.len false), [.v 9], none⟩,
    ⟨.v 11, .p .mv, [.k (.m (.i .i64 0))], none⟩])
  (.blk 0
  c114_L0))
  (.seq
  (.reg [⟨.l 24, .p .mv, [.v 3], none⟩,
    ⟨.v 2, .p .mv, [.l 24], none⟩])
  .ret))))⟩

/- cellular/delta.at -/
def c115 : F := ⟨1, [.c 2 2 true],
  (.seq
  (.reg [⟨.v 1, .l (.bxp 1 4), [.v 0], none⟩,
    ⟨.v 2, .l (.alp 2 [.m (.i .i64 0), .m (.i .i64 0)]), [], none⟩])
  (.seq
  (.reg [⟨.l 3, .p (.fad 0), [.v 1], none⟩,
    ⟨.l 4, .r (.ld false 1), [.l 3], none⟩,
    ⟨.l 5, .p (.fad 1), [.v 1], none⟩,
    ⟨.l 6, .r (.ld false 1), [.l 5], none⟩,
    ⟨.l 7, .p (.build [.m (.i .i64 0), .m (.i .i64 0)] [(0, 1), (1, 1)]), [.l 4, .l 6], none⟩,
    ⟨.no, .l (.st 2), [.v 2, .l 7], none⟩])
  .ret))⟩

/- slices.IndexFunc[[]cellular/api.Pattern,cellular/api.Pattern] -/
def c116_B0 : C :=
  (.seq
  (.reg [⟨.v 9, .p (.bin .lss), [.v 8, .v 7], none⟩])
  (.seq
  (.ite (.v 9)
    .skip
    (.ex 0))
  (.seq
  (.blk 1
  (.seq
  (.reg [⟨.l 10, .p .mv, [.v 8], none⟩,
    ⟨.v 5, .p .mv, [.l 10], none⟩])
  (.seq
  (.reg [⟨.l 11, .p .mv, [.v 1], none⟩,
    ⟨.l 12, .p .mv, [.v 0], none⟩,
    ⟨.l 13, .p .mv, [.v 5], none⟩,
    ⟨.l 14, .p (.ixa 1), [.l 12, .l 13], none⟩,
    ⟨.l 15, .r (.ld false 1), [.l 14], none⟩,
    ⟨.v 16, .l .cav, [.l 11, .l 15], none⟩])
  (.ite (.v 16)
    (.seq
    (.reg [⟨.l 17, .p .mv, [.v 5], none⟩,
      ⟨.v 4, .p .mv, [.l 17], none⟩])
    .ret)
    .skip))))
  (.reg [⟨.l 18, .p (.bin .add), [.v 8, .k (.m (.i .i64 1))], none⟩,
    ⟨.v 8, .p .mv, [.l 18], none⟩]))))
def c116_L0 : C := .loop [4, 5, 9, 16] c116_B0
def c116 : F := ⟨2, [.t 4],
  (.seq
  (.reg [⟨.v 4, .p .mv, [.k (.m (.i .i64 0))], none⟩])
  (.seq
  (.seq
  (.reg [⟨.l 6, .p .mv, [.v 0], none⟩,
    ⟨.v 7, .p (.len false), [.l 6], none⟩,
    ⟨.v 8, .p .mv, [.k (.m (.i .i64 0))], none⟩])
  (.blk 0
  c116_L0))
  (.seq
  (.reg [⟨.v 4, .p .mv, [.k (.m (.i .i64 (-1)))], none⟩])
  .ret)))⟩

/- cellular/direct.check -/
def c117 : F := ⟨2, [.t 4],
  (.seq
  (.reg [⟨.v 2, .l (.bxp 2 3), [.v 0], none⟩,
    ⟨.v 4, .p .mv, [.k (.m (.i .i64 0))], none⟩])
  (.seq
  (.blk 0
  (.seq
  (.reg [⟨.l 6, .r (.ld true 3), [.v 2], none⟩,
    ⟨.l 7, .l (.cal 41), [.l 6], none⟩,
    ⟨.l 8, .p (.un .not), [.l 7], none⟩,
    ⟨.v 5, .p .mv, [.l 8], none⟩])
  (.ite (.v 5)
    (.seq
    (.reg [⟨.v 4, .p .mv, [.k (.m (.i .i64 11))], none⟩])
    .ret)
    (.seq
    (.reg [⟨.l 10, .p .mv, [.v 1], none⟩,
      ⟨.l 11, .l (.cal 73), [.l 10], none⟩,
      ⟨.l 12, .p (.un .not), [.l 11], none⟩,
      ⟨.v 9, .p .mv, [.l 12], none⟩])
    (.ite (.v 9)
      (.seq
      (.reg [⟨.v 4, .p .mv, [.k (.m (.i .i64 2))], none⟩])
      .ret)
      (.seq
      (.reg [⟨.l 14, .p .mv, [.v 1], none⟩,
        ⟨.l 15, .l (.cal 79), [.l 14], none⟩,
        ⟨.l 16, .p (.fad 0), [.v 2], none⟩,
        ⟨.l 17, .r (.ld false 1), [.l 16], none⟩,
        ⟨.l 18, .p (.bin .geq), [.l 15, .l 17], none⟩,
        ⟨.v 13, .p .mv, [.l 18], none⟩])
      (.ite (.v 13)
        (.seq
        (.reg [⟨.v 4, .p .mv, [.k (.m (.i .i64 10))], none⟩])
        .ret)
        .skip)))))))
  (.seq
  (.reg [⟨.v 4, .p .mv, [.k (.m (.i .i64 0))], none⟩])
  .ret)))⟩

/- cellular/direct.step -/
def c118_B0 : C :=
  (.seq
  (.reg [⟨.v 28, .p (.bin .lss), [.v 27, .v 26], none⟩])
  (.seq
  (.ite (.v 28)
    .skip
    (.ex 2))
  (.seq
  (.blk 3
  (.seq
  (.reg [⟨.l 29, .p (.ixa 2), [.v 25, .v 27], none⟩,
    ⟨.l 30, .r (.ld true 2), [.l 29], none⟩,
    ⟨.v 12, .l (.alp 12 [.m (.i .i64 0), .m (.i .i64 0)]), [], none⟩,
    ⟨.no, .l (.st 2), [.v 12, .l 30], none⟩])
  (.seq
  (.reg [⟨.l 31, .p (.fad 0), [.v 10], none⟩,
    ⟨.l 32, .r (.ld false 1), [.l 31], none⟩,
    ⟨.l 33, .p (.fad 0), [.v 12], none⟩,
    ⟨.l 34, .r (.ld false 1), [.l 33], none⟩,
    ⟨.l 35, .p (.bin .sub), [.l 32, .l 34], none⟩,
    ⟨.l 36, .p (.fad 1), [.v 10], none⟩,
    ⟨.l 37, .r (.ld false 1), [.l 36], none⟩,
    ⟨.l 38, .p (.fad 1), [.v 12], none⟩,
    ⟨.l 39, .r (.ld false 1), [.l 38], none⟩,
    ⟨.l 40, .p (.bin .sub), [.l 37, .l 39], none⟩,
    ⟨.l 41, .p (.build [.m (.i .i64 0), .m (.i .i64 0)] [(0, 1), (1, 1)]), [.l 35, .l 40], none⟩,
    ⟨.v 13, .l (.alp 13 [.m (.i .i64 0), .m (.i .i64 0)]), [], none⟩,
    ⟨.no, .l (.st 2), [.v 13, .l 41], none⟩])
  (.seq
  (.seq
  (.reg [⟨.l 42, .p .mv, [.v 7], none⟩,
    ⟨.l 43, .r (.ld true 2), [.v 13], none⟩,
    ⟨.v 44, .r (.lkp ⟨true, [1, 1]⟩ [.m (.b false)] false false), [.l 42, .l 43], none⟩])
  (.ite (.v 44)
    (.ex 3)
    .skip))
  (.seq
  (.reg [⟨.l 45, .p .mv, [.v 7], none⟩,
    ⟨.l 46, .r (.ld true 2), [.v 13], none⟩,
    ⟨.no, .l (.mup ⟨true, [1, 1]⟩), [.l 45, .l 46, .k (.m (.b true))], none⟩])
  (.seq
  (.reg [⟨.l 47, .p .mv, [.v 6], none⟩,
    ⟨.l 48, .r (.ld true 3), [.v 2], none⟩,
    ⟨.l 49, .r (.ld true 2), [.v 13], none⟩,
    ⟨.l 50, .l (.cal 136), [.l 47, .l 48, .l 49], none⟩,
    ⟨.v 14, .p .mv, [.l 50], none⟩])
  (.seq
  (.reg [⟨.l 51, .p .mv, [.v 14], none⟩,
    ⟨.v 52, .p (.bin .gtr), [.l 51, .k (.m (.i .i64 0))], none⟩])
  (.ite (.v 52)
    (.seq
    (.seq
    (.reg [⟨.l 53, .r (.ld true 2), [.v 13], none⟩,
      ⟨.l 54, .l (.cal 137), [.l 53], none⟩,
      ⟨.v 55, .p (.un .not), [.l 54], none⟩])
    (.ite (.v 55)
      (.seq
      (.reg [⟨.v 4, .p .mv, [.k (.m (.nl 4))], none⟩,
        ⟨.v 5, .p .mv, [.k (.m (.i .i64 5))], none⟩])
      .ret)
      .skip))
    (.reg [⟨.l 56, .p .mv, [.v 8], none⟩,
      ⟨.l 57, .p (.fad 0), [.v 13], none⟩,
      ⟨.l 58, .r (.ld false 1), [.l 57], none⟩,
      ⟨.l 59, .p (.fad 1), [.v 13], none⟩,
      ⟨.l 60, .r (.ld false 1), [.l 59], none⟩,
      ⟨.l 61, .p .mv, [.v 14], none⟩,
      ⟨.l 62, .p (.build [.m (.i .i64 0), .m (.i .i64 0), .m (.i .i64 0)] [(0, 1), (1, 1), (2, 1)]), [.l 58, .l 60, .l 61], none⟩,
      ⟨.l 63, .p (.bsl 3 [.m (.i .i64 0), .m (.i .i64 0), .m (.i .i64 0)] 1 [0]), [.l 62], none⟩,
      ⟨.l 64, .l (.app 113 3 24), [.l 56, .l 63], none⟩,
      ⟨.v 8, .p .mv, [.l 64], none⟩]))
    .skip))))))))
  (.reg [⟨.l 65, .p (.bin .add), [.v 27, .k (.m (.i .i64 1))], none⟩,
    ⟨.v 27, .p .mv, [.l 65], none⟩]))))
def c118_L0 : C := .loop [12, 13, 14, 21, 28, 44, 52, 55] c118_B0
def c118_B1 : C :=
  (.seq
  (.reg [⟨.v 21, .p (.bin .lss), [.v 20, .v 19], none⟩])
  (.seq
  (.ite (.v 21)
    .skip
    (.ex 0))
  (.seq
  (.blk 1
  (.seq
  (.reg [⟨.l 22, .p (.ixa 3), [.v 18, .v 20], none⟩,
    ⟨.l 23, .r (.ld true 3), [.l 22], none⟩,
    ⟨.v 10, .l (.alp 10 [.m (.i .i64 0), .m (.i .i64 0), .m (.i .i64 0)]), [], none⟩,
    ⟨.no, .l (.st 3), [.v 10, .l 23], none⟩])
  (.seq
  (.reg [⟨.l 24, .p (.fad 1), [.v 2], none⟩,
    ⟨.v 25, .r (.ld false 1), [.l 24], none⟩,
    ⟨.v 26, .p (.len false), [.v 25], none⟩,
    ⟨.v 27, .p .mv, [.k (.m (.i .i64 0))], none⟩])
  (.blk 2
  c118_L0))))
  (.reg [⟨.l 66, .p (.bin .add), [.v 20, .k (.m (.i .i64 1))], none⟩,
    ⟨.v 20, .p .mv, [.l 66], none⟩]))))
def c118_L1 : C := .loop [0, 1, 4, 5, 10, 25, 26, 27, 28] c118_B1
def c118 : F := ⟨2, [.t 4, .t 5],
  (.seq
  (.reg [⟨.v 2, .l (.bxp 2 3), [.v 0], none⟩,
    ⟨.v 4, .p .mv, [.k (.m (.nl 4))], none⟩,
    ⟨.v 5, .p .mv, [.k (.m (.i .i64 0))], none⟩])
  (.seq
  (.reg [⟨.l 15, .p .mv, [.v 1], none⟩,
    ⟨.l 16, .l (.cal 135), [.l 15], none⟩,
    ⟨.v 6, .p .mv, [.l 16], none⟩])
  (.seq
  (.reg [⟨.l 17, .l .mkm, [], none⟩,
    ⟨.v 7, .p .mv, [.l 17], none⟩])
  (.seq
  (.reg [⟨.v 8, .p .mv, [.k (.m (.nl 4))], none⟩])
  (.seq
  (.seq
  (.reg [⟨.v 18, .p .mv, [.v 1], none⟩,
    ⟨.v 19, .p (.len false), [.v 18], none⟩,
    ⟨.v 20, .p .mv, [.k (.m (.i .i64 0))], none⟩])
  (.blk 0
  c118_L1))
  (.seq
  (.reg [⟨.l 67, .p .mv, [.v 8], none⟩,
    ⟨.l 68, .l (.cal 94), [.l 67], none⟩,
    ⟨.l 69, .p (.ext 0), [.l 68], none⟩,
    ⟨.l 70, .p (.ext 1), [.l 68], none⟩,
    ⟨.v 4, .p .mv, [.l 69], none⟩,
    ⟨.v 5, .p .mv, [.l 70], none⟩])
  .ret))))))⟩


end Go.Mx.Tryz
