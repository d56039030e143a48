/- The compact code of the functions of this seat, printed by a program of my own; XComp checks it against the translation. -/
import Derived.Test.YtaomjcmiaiokcaaDoorRng
set_option maxRecDepth 100000
namespace Go.Mx.Tryd

/- cellular/cellularlaw10.WolframParses -/
def c6 : F := ⟨1, [.t 2],
  (.seq
  (.reg [⟨.v 2, .p .mv, [.k (.m (.b false))], none⟩])
  (.seq
  (.seq
  (.reg [⟨.l 11, .p .mv, [.v 0], none⟩,
    ⟨.l 12, .p (.len true), [.l 11], none⟩,
    ⟨.v 13, .p (.bin .gtr), [.l 12, .k (.m (.i .i64 1000))], none⟩])
  (.ite (.v 13)
    (.seq
    (.reg [⟨.l 14, .l (.cal 12), [], none⟩,
      ⟨.v 2, .p .mv, [.l 14], none⟩])
    .ret)
    .skip))
  (.seq
  (.reg [⟨.l 16, .p .mv, [.v 0], none⟩,
    ⟨.l 17, .l (.cal 18), [.l 16], none⟩,
    ⟨.l 15, .p .mv, [.l 17], none⟩,
    ⟨.l 18, .p (.ext 0), [.l 15], none⟩,
    ⟨.l 19, .p (.ext 1), [.l 15], none⟩,
    ⟨.l 20, .p (.ext 2), [.l 15], none⟩,
    ⟨.l 21, .p (.ext 3), [.l 15], none⟩,
    ⟨.v 3, .p .mv, [.l 18], none⟩,
    ⟨.v 4, .p .mv, [.l 19], none⟩,
    ⟨.v 5, .p .mv, [.l 20], none⟩,
    ⟨.v 6, .p .mv, [.l 21], none⟩])
  (.seq
  (.reg [⟨.l 23, .p .mv, [.v 0], none⟩,
    ⟨.l 24, .l (.cal 19), [.l 23], none⟩,
    ⟨.l 22, .p .mv, [.l 24], none⟩,
    ⟨.l 25, .p (.ext 0), [.l 22], none⟩,
    ⟨.l 26, .p (.ext 1), [.l 22], none⟩,
    ⟨.l 27, .p (.ext 2), [.l 22], none⟩,
    ⟨.l 28, .p (.ext 3), [.l 22], none⟩,
    ⟨.v 7, .p .mv, [.l 25], none⟩,
    ⟨.v 8, .p .mv, [.l 26], none⟩,
    ⟨.v 9, .p .mv, [.l 27], none⟩,
    ⟨.v 10, .p .mv, [.l 28], none⟩])
  (.seq
  (.reg [⟨.l 29, .p .mv, [.v 3], none⟩,
    ⟨.l 30, .p .mv, [.v 7], none⟩,
    ⟨.l 31, .p (.bin .eql), [.l 29, .l 30], none⟩,
    ⟨.l 32, .p .mv, [.l 31], none⟩,
    ⟨.l 33, .p .mv, [.v 4], some (.l 32, true)⟩,
    ⟨.l 34, .p .mv, [.v 8], some (.l 32, true)⟩,
    ⟨.l 35, .p (.bin .eql), [.l 33, .l 34], some (.l 32, true)⟩,
    ⟨.l 36, .p .pick, [.l 32, .l 35, .k (.m (.b false))], none⟩,
    ⟨.l 37, .p .mv, [.l 36], none⟩,
    ⟨.l 38, .p .mv, [.v 5], some (.l 37, true)⟩,
    ⟨.l 39, .p .mv, [.v 9], some (.l 37, true)⟩,
    ⟨.l 40, .p (.eqb false), [.l 38, .l 39], some (.l 37, true)⟩,
    ⟨.l 41, .p .pick, [.l 37, .l 40, .k (.m (.b false))], none⟩,
    ⟨.l 42, .p .mv, [.l 41], none⟩,
    ⟨.l 43, .p .mv, [.v 6], some (.l 42, true)⟩,
    ⟨.l 44, .p .mv, [.v 10], some (.l 42, true)⟩,
    ⟨.l 45, .p (.bin .eql), [.l 43, .l 44], some (.l 42, true)⟩,
    ⟨.l 46, .p .pick, [.l 42, .l 45, .k (.m (.b false))], none⟩,
    ⟨.l 47, .p .mv, [.l 46], none⟩,
    ⟨.l 48, .l (.cal 12), [], some (.l 47, true)⟩,
    ⟨.l 49, .p .pick, [.l 47, .l 48, .k (.m (.b false))], none⟩,
    ⟨.v 2, .p .mv, [.l 49], none⟩])
  .ret)))))⟩

/- cellular/wolfram.Elementary -/
def c9_B0 : C :=
  (.seq
  (.reg [⟨.v 14, .p (.bin .lss), [.v 13, .k (.m (.i .i64 8))], none⟩])
  (.seq
  (.ite (.v 14)
    .skip
    (.ex 0))
  (.seq
  (.blk 1
  (.seq
  (.reg [⟨.l 15, .p .mv, [.v 13], none⟩,
    ⟨.v 5, .p .mv, [.l 15], none⟩])
  (.reg [⟨.l 16, .p .mv, [.v 5], none⟩,
    ⟨.l 17, .p .mv, [.v 0], none⟩,
    ⟨.l 18, .p .mv, [.v 5], none⟩,
    ⟨.l 19, .p (.bin .shr), [.l 17, .l 18], none⟩,
    ⟨.l 20, .p (.bin .and), [.l 19, .k (.m (.i .i64 1))], none⟩,
    ⟨.l 21, .p (.ixaA 8 1), [.v 4, .l 16], none⟩,
    ⟨.no, .l (.st 1), [.l 21, .l 20], none⟩])))
  (.reg [⟨.l 22, .p (.bin .add), [.v 13, .k (.m (.i .i64 1))], none⟩,
    ⟨.v 13, .p .mv, [.l 22], none⟩]))))
def c9_L0 : C := .loop [3, 5, 11, 14] c9_B0
def c9 : F := ⟨1, [.c 2 8 true, .t 3],
  (.seq
  (.reg [⟨.v 2, .l (.alp 2 [.m (.i .i64 0), .m (.i .i64 0), .m (.i .i64 0), .m (.i .i64 0), .m (.i .i64 0), .m (.i .i64 0), .m (.i .i64 0), .m (.i .i64 0)]), [], none⟩,
    ⟨.v 3, .p .mv, [.k (.m (.i .i64 0))], none⟩])
  (.seq
  (.reg [⟨.v 4, .l (.alp 4 [.m (.i .i64 0), .m (.i .i64 0), .m (.i .i64 0), .m (.i .i64 0), .m (.i .i64 0), .m (.i .i64 0), .m (.i .i64 0), .m (.i .i64 0)]), [], none⟩])
  (.seq
  (.seq
  (.reg [⟨.l 6, .p .mv, [.v 0], none⟩,
    ⟨.l 7, .p (.bin .lss), [.l 6, .k (.m (.i .i64 0))], none⟩,
    ⟨.l 8, .p .mv, [.l 7], none⟩,
    ⟨.l 9, .p .mv, [.v 0], some (.l 8, false)⟩,
    ⟨.l 10, .p (.bin .gtr), [.l 9, .k (.m (.i .i64 255))], some (.l 8, false)⟩,
    ⟨.v 11, .p .pick, [.l 8, .k (.m (.b true)), .l 10], none⟩])
  (.ite (.v 11)
    (.seq
    (.reg [⟨.l 12, .r (.ld true 8), [.v 4], none⟩,
      ⟨.no, .l (.st 8), [.v 2, .l 12], none⟩,
      ⟨.v 3, .p .mv, [.k (.m (.i .i64 5))], none⟩])
    .ret)
    .skip))
  (.seq
  (.seq
  (.reg [⟨.v 13, .p .mv, [.k (.m (.i .i64 0))], none⟩])
  (.blk 0
  c9_L0))
  (.seq
  (.reg [⟨.l 23, .r (.ld true 8), [.v 4], none⟩,
    ⟨.no, .l (.st 8), [.v 2, .l 23], none⟩,
    ⟨.v 3, .p .mv, [.k (.m (.i .i64 0))], none⟩])
  .ret)))))⟩

/- cellular/wolfram.Number -/
def c11_B0 : C :=
  (.seq
  (.reg [⟨.v 9, .p (.bin .lss), [.v 8, .k (.m (.i .i64 8))], none⟩])
  (.seq
  (.ite (.v 9)
    .skip
    (.ex 0))
  (.seq
  (.blk 1
  (.seq
  (.reg [⟨.l 10, .p .mv, [.v 8], none⟩,
    ⟨.v 5, .p .mv, [.l 10], none⟩])
  (.reg [⟨.l 11, .p .mv, [.v 4], none⟩,
    ⟨.l 12, .p .mv, [.v 5], none⟩,
    ⟨.l 13, .p (.ixaA 8 1), [.v 1, .l 12], none⟩,
    ⟨.l 14, .r (.ld false 1), [.l 13], none⟩,
    ⟨.l 15, .p .mv, [.v 5], none⟩,
    ⟨.l 16, .p (.bin .shl), [.l 14, .l 15], none⟩,
    ⟨.l 17, .p (.bin .or), [.l 11, .l 16], none⟩,
    ⟨.v 4, .p .mv, [.l 17], none⟩])))
  (.reg [⟨.l 18, .p (.bin .add), [.v 8, .k (.m (.i .i64 1))], none⟩,
    ⟨.v 8, .p .mv, [.l 18], none⟩]))))
def c11_L0 : C := .loop [0, 2, 3, 5, 7, 9] c11_B0
def c11 : F := ⟨1, [.t 2, .t 3],
  (.seq
  (.reg [⟨.v 1, .l (.bxs 22 1 8), [.v 0], none⟩,
    ⟨.v 2, .p .mv, [.k (.m (.i .i64 0))], none⟩,
    ⟨.v 3, .p .mv, [.k (.m (.i .i64 0))], none⟩])
  (.seq
  (.seq
  (.reg [⟨.l 6, .r (.slcA 8 1 false false false), [.v 1], none⟩,
    ⟨.v 7, .l (.cal 25), [.l 6, .k (.m (.fn 26 []))], none⟩])
  (.ite (.v 7)
    (.seq
    (.reg [⟨.v 2, .p .mv, [.k (.m (.i .i64 0))], none⟩,
      ⟨.v 3, .p .mv, [.k (.m (.i .i64 10))], none⟩])
    .ret)
    .skip))
  (.seq
  (.reg [⟨.v 4, .p .mv, [.k (.m (.i .i64 0))], none⟩])
  (.seq
  (.seq
  (.reg [⟨.v 8, .p .mv, [.k (.m (.i .i64 0))], none⟩])
  (.blk 0
  c11_L0))
  (.seq
  (.reg [⟨.l 19, .p .mv, [.v 4], none⟩,
    ⟨.v 2, .p .mv, [.l 19], none⟩,
    ⟨.v 3, .p .mv, [.k (.m (.i .i64 0))], none⟩])
  .ret)))))⟩

/- cellular/cellularlaw10.alive -/
def c12 : F := ⟨0, [.t 0],
  (.seq
  (.reg [⟨.v 0, .p .mv, [.k (.m (.b false))], none⟩])
  (.seq
  (.reg [⟨.l 22, .l (.cal 9), [.k (.m (.i .i64 90))], none⟩,
    ⟨.l 21, .p .mv, [.l 22], none⟩,
    ⟨.l 23, .p (.ext 0), [.l 21], none⟩,
    ⟨.l 24, .p (.ext 1), [.l 21], none⟩,
    ⟨.v 1, .l (.alp 1 [.m (.i .i64 0), .m (.i .i64 0), .m (.i .i64 0), .m (.i .i64 0), .m (.i .i64 0), .m (.i .i64 0), .m (.i .i64 0), .m (.i .i64 0)]), [], none⟩,
    ⟨.no, .l (.st 8), [.v 1, .l 23], none⟩,
    ⟨.v 2, .p .mv, [.l 24], none⟩])
  (.seq
  (.reg [⟨.l 26, .l (.cal 14), [.k (.m (.i .i64 110))], none⟩,
    ⟨.l 25, .p .mv, [.l 26], none⟩,
    ⟨.l 27, .p (.ext 0), [.l 25], none⟩,
    ⟨.l 28, .p (.ext 1), [.l 25], none⟩,
    ⟨.v 3, .p .mv, [.l 27], none⟩,
    ⟨.v 4, .p .mv, [.l 28], none⟩])
  (.seq
  (.reg [⟨.l 30, .l (.cal 15), [.k (.m (.i .i64 110))], none⟩,
    ⟨.l 29, .p .mv, [.l 30], none⟩,
    ⟨.l 31, .p (.ext 0), [.l 29], none⟩,
    ⟨.l 32, .p (.ext 1), [.l 29], none⟩,
    ⟨.v 5, .p .mv, [.l 31], none⟩,
    ⟨.v 6, .p .mv, [.l 32], none⟩])
  (.seq
  (.reg [⟨.l 34, .l (.cal 20), [.k (.m (.i .i64 3)), .k (.m (.i .i64 777))], none⟩,
    ⟨.l 33, .p .mv, [.l 34], none⟩,
    ⟨.l 35, .p (.ext 0), [.l 33], none⟩,
    ⟨.l 36, .p (.ext 1), [.l 33], none⟩,
    ⟨.v 7, .p .mv, [.l 35], none⟩,
    ⟨.v 8, .p .mv, [.l 36], none⟩])
  (.seq
  (.reg [⟨.l 38, .l (.cal 18), [.k (.m (.s [84, 55, 55, 55, 47, 51]))], none⟩,
    ⟨.l 37, .p .mv, [.l 38], none⟩,
    ⟨.l 39, .p (.ext 0), [.l 37], none⟩,
    ⟨.l 40, .p (.ext 1), [.l 37], none⟩,
    ⟨.l 41, .p (.ext 2), [.l 37], none⟩,
    ⟨.l 42, .p (.ext 3), [.l 37], none⟩,
    ⟨.v 9, .p .mv, [.l 39], none⟩,
    ⟨.v 10, .p .mv, [.l 40], none⟩,
    ⟨.v 11, .p .mv, [.l 41], none⟩,
    ⟨.v 12, .p .mv, [.l 42], none⟩])
  (.seq
  (.reg [⟨.l 44, .l (.cal 18), [.k (.m (.s [87, 50, 53, 54]))], none⟩,
    ⟨.l 43, .p .mv, [.l 44], none⟩,
    ⟨.l 45, .p (.ext 0), [.l 43], none⟩,
    ⟨.l 46, .p (.ext 1), [.l 43], none⟩,
    ⟨.l 47, .p (.ext 2), [.l 43], none⟩,
    ⟨.l 48, .p (.ext 3), [.l 43], none⟩,
    ⟨.l 13, .p .mv, [.l 45], none⟩,
    ⟨.l 14, .p .mv, [.l 46], none⟩,
    ⟨.l 15, .p .mv, [.l 47], none⟩,
    ⟨.v 16, .p .mv, [.l 48], none⟩])
  (.seq
  (.reg [⟨.l 50, .l (.cal 18), [.k (.m (.s [87, 48, 51, 48]))], none⟩,
    ⟨.l 49, .p .mv, [.l 50], none⟩,
    ⟨.l 51, .p (.ext 0), [.l 49], none⟩,
    ⟨.l 52, .p (.ext 1), [.l 49], none⟩,
    ⟨.l 53, .p (.ext 2), [.l 49], none⟩,
    ⟨.l 54, .p (.ext 3), [.l 49], none⟩,
    ⟨.l 17, .p .mv, [.l 51], none⟩,
    ⟨.l 18, .p .mv, [.l 52], none⟩,
    ⟨.l 19, .p .mv, [.l 53], none⟩,
    ⟨.v 20, .p .mv, [.l 54], none⟩])
  (.seq
  (.reg [⟨.l 55, .p .mv, [.v 2], none⟩,
    ⟨.l 56, .p (.bin .eql), [.l 55, .k (.m (.i .i64 0))], none⟩,
    ⟨.l 57, .p .mv, [.l 56], none⟩,
    ⟨.l 58, .r (.ld true 8), [.v 1], some (.l 57, true)⟩,
    ⟨.l 59, .p (.build [.m (.i .i64 0), .m (.i .i64 0), .m (.i .i64 0), .m (.i .i64 0), .m (.i .i64 0), .m (.i .i64 0), .m (.i .i64 0), .m (.i .i64 0)] [(0, 1), (1, 1), (2, 1), (3, 1), (4, 1), (5, 1), (6, 1), (7, 1)]), [.k (.m (.i .i64 0)), .k (.m (.i .i64 1)), .k (.m (.i .i64 0)), .k (.m (.i .i64 1)), .k (.m (.i .i64 1)), .k (.m (.i .i64 0)), .k (.m (.i .i64 1)), .k (.m (.i .i64 0))], some (.l 57, true)⟩,
    ⟨.l 60, .p (.eqs false [1, 1, 1, 1, 1, 1, 1, 1]), [.l 58, .l 59], some (.l 57, true)⟩,
    ⟨.l 61, .p .pick, [.l 57, .l 60, .k (.m (.b false))], none⟩,
    ⟨.l 62, .p .mv, [.l 61], none⟩,
    ⟨.l 63, .p .mv, [.v 3], some (.l 62, true)⟩,
    ⟨.l 64, .p (.bin .eql), [.l 63, .k (.m (.i .i64 124))], some (.l 62, true)⟩,
    ⟨.l 65, .p .pick, [.l 62, .l 64, .k (.m (.b false))], none⟩,
    ⟨.l 66, .p .mv, [.l 65], none⟩,
    ⟨.l 67, .p .mv, [.v 4], some (.l 66, true)⟩,
    ⟨.l 68, .p (.bin .eql), [.l 67, .k (.m (.i .i64 0))], some (.l 66, true)⟩,
    ⟨.l 69, .p .pick, [.l 66, .l 68, .k (.m (.b false))], none⟩,
    ⟨.l 70, .p .mv, [.l 69], none⟩,
    ⟨.l 71, .p .mv, [.v 5], some (.l 70, true)⟩,
    ⟨.l 72, .p (.bin .eql), [.l 71, .k (.m (.i .i64 137))], some (.l 70, true)⟩,
    ⟨.l 73, .p .pick, [.l 70, .l 72, .k (.m (.b false))], none⟩,
    ⟨.l 74, .p .mv, [.l 73], none⟩,
    ⟨.l 75, .p .mv, [.v 6], some (.l 74, true)⟩,
    ⟨.l 76, .p (.bin .eql), [.l 75, .k (.m (.i .i64 0))], some (.l 74, true)⟩,
    ⟨.l 77, .p .pick, [.l 74, .l 76, .k (.m (.b false))], none⟩,
    ⟨.l 78, .p .mv, [.l 77], none⟩,
    ⟨.l 79, .p .mv, [.v 8], some (.l 78, true)⟩,
    ⟨.l 80, .p (.bin .eql), [.l 79, .k (.m (.i .i64 0))], some (.l 78, true)⟩,
    ⟨.l 81, .p .pick, [.l 78, .l 80, .k (.m (.b false))], none⟩,
    ⟨.l 82, .p .mv, [.l 81], none⟩,
    ⟨.l 83, .p .mv, [.v 7], some (.l 82, true)⟩,
    ⟨.l 84, .p (.bsl 1 [.m (.i .i64 0)] 7 [0, 1, 2, 3, 4, 5, 6]), [.k (.m (.i .i64 0)), .k (.m (.i .i64 1)), .k (.m (.i .i64 2)), .k (.m (.i .i64 1)), .k (.m (.i .i64 0)), .k (.m (.i .i64 0)), .k (.m (.i .i64 1))], some (.l 82, true)⟩,
    ⟨.l 85, .l (.cal 22), [.l 83, .l 84], some (.l 82, true)⟩,
    ⟨.l 86, .p .pick, [.l 82, .l 85, .k (.m (.b false))], none⟩,
    ⟨.l 87, .p .mv, [.l 86], none⟩,
    ⟨.l 88, .p .mv, [.v 9], some (.l 87, true)⟩,
    ⟨.l 89, .p (.bin .eql), [.l 88, .k (.m (.i .i64 3))], some (.l 87, true)⟩,
    ⟨.l 90, .p .pick, [.l 87, .l 89, .k (.m (.b false))], none⟩,
    ⟨.l 91, .p .mv, [.l 90], none⟩,
    ⟨.l 92, .p .mv, [.v 10], some (.l 91, true)⟩,
    ⟨.l 93, .p (.bin .eql), [.l 92, .k (.m (.i .i64 777))], some (.l 91, true)⟩,
    ⟨.l 94, .p .pick, [.l 91, .l 93, .k (.m (.b false))], none⟩,
    ⟨.l 95, .p .mv, [.l 94], none⟩,
    ⟨.l 96, .p .mv, [.v 11], some (.l 95, true)⟩,
    ⟨.l 97, .p .pick, [.l 95, .l 96, .k (.m (.b false))], none⟩,
    ⟨.l 98, .p .mv, [.l 97], none⟩,
    ⟨.l 99, .p .mv, [.v 12], some (.l 98, true)⟩,
    ⟨.l 100, .p (.bin .eql), [.l 99, .k (.m (.i .i64 0))], some (.l 98, true)⟩,
    ⟨.l 101, .p .pick, [.l 98, .l 100, .k (.m (.b false))], none⟩,
    ⟨.l 102, .p .mv, [.l 101], none⟩,
    ⟨.l 103, .p .mv, [.v 16], some (.l 102, true)⟩,
    ⟨.l 104, .p (.bin .eql), [.l 103, .k (.m (.i .i64 5))], some (.l 102, true)⟩,
    ⟨.l 105, .p .pick, [.l 102, .l 104, .k (.m (.b false))], none⟩,
    ⟨.l 106, .p .mv, [.l 105], none⟩,
    ⟨.l 107, .p .mv, [.v 20], some (.l 106, true)⟩,
    ⟨.l 108, .p (.bin .eql), [.l 107, .k (.m (.i .i64 15))], some (.l 106, true)⟩,
    ⟨.l 109, .p .pick, [.l 106, .l 108, .k (.m (.b false))], none⟩,
    ⟨.v 0, .p .mv, [.l 109], none⟩])
  .ret)))))))))⟩

/- cellular/wolfram.Mirror -/
def c14_B0 : C :=
  (.seq
  (.reg [⟨.v 17, .p (.bin .lss), [.v 16, .k (.m (.i .i64 8))], none⟩])
  (.seq
  (.ite (.v 17)
    .skip
    (.ex 0))
  (.seq
  (.blk 1
  (.seq
  (.reg [⟨.l 18, .p .mv, [.v 16], none⟩,
    ⟨.v 7, .p .mv, [.l 18], none⟩])
  (.reg [⟨.l 19, .p .mv, [.v 7], none⟩,
    ⟨.l 20, .p .mv, [.v 7], none⟩,
    ⟨.l 21, .p (.bin .and), [.l 20, .k (.m (.i .i64 1))], none⟩,
    ⟨.l 22, .p (.bin .shl), [.l 21, .k (.m (.i .u64 2))], none⟩,
    ⟨.l 23, .p .mv, [.v 7], none⟩,
    ⟨.l 24, .p (.bin .and), [.l 23, .k (.m (.i .i64 2))], none⟩,
    ⟨.l 25, .p (.bin .or), [.l 22, .l 24], none⟩,
    ⟨.l 26, .p .mv, [.v 7], none⟩,
    ⟨.l 27, .p (.bin .shr), [.l 26, .k (.m (.i .u64 2))], none⟩,
    ⟨.l 28, .p (.bin .or), [.l 25, .l 27], none⟩,
    ⟨.l 29, .p (.ixaA 8 1), [.v 4, .l 28], none⟩,
    ⟨.l 30, .r (.ld false 1), [.l 29], none⟩,
    ⟨.l 31, .p (.ixaA 8 1), [.v 6, .l 19], none⟩,
    ⟨.no, .l (.st 1), [.l 31, .l 30], none⟩])))
  (.reg [⟨.l 32, .p (.bin .add), [.v 16, .k (.m (.i .i64 1))], none⟩,
    ⟨.v 16, .p .mv, [.l 32], none⟩]))))
def c14_L0 : C := .loop [0, 2, 3, 5, 7, 14, 17] c14_B0
def c14 : F := ⟨1, [.t 2, .t 3],
  (.seq
  (.reg [⟨.v 2, .p .mv, [.k (.m (.i .i64 0))], none⟩,
    ⟨.v 3, .p .mv, [.k (.m (.i .i64 0))], none⟩])
  (.seq
  (.reg [⟨.l 9, .p .mv, [.v 0], none⟩,
    ⟨.l 10, .l (.cal 9), [.l 9], none⟩,
    ⟨.l 8, .p .mv, [.l 10], none⟩,
    ⟨.l 11, .p (.ext 0), [.l 8], none⟩,
    ⟨.l 12, .p (.ext 1), [.l 8], none⟩,
    ⟨.v 4, .l (.alp 4 [.m (.i .i64 0), .m (.i .i64 0), .m (.i .i64 0), .m (.i .i64 0), .m (.i .i64 0), .m (.i .i64 0), .m (.i .i64 0), .m (.i .i64 0)]), [], none⟩,
    ⟨.no, .l (.st 8), [.v 4, .l 11], none⟩,
    ⟨.v 5, .p .mv, [.l 12], none⟩])
  (.seq
  (.seq
  (.reg [⟨.l 13, .p .mv, [.v 5], none⟩,
    ⟨.v 14, .p (.bin .neq), [.l 13, .k (.m (.i .i64 0))], none⟩])
  (.ite (.v 14)
    (.seq
    (.reg [⟨.l 15, .p .mv, [.v 5], none⟩,
      ⟨.v 2, .p .mv, [.k (.m (.i .i64 0))], none⟩,
      ⟨.v 3, .p .mv, [.l 15], none⟩])
    .ret)
    .skip))
  (.seq
  (.reg [⟨.v 6, .l (.alp 6 [.m (.i .i64 0), .m (.i .i64 0), .m (.i .i64 0), .m (.i .i64 0), .m (.i .i64 0), .m (.i .i64 0), .m (.i .i64 0), .m (.i .i64 0)]), [], none⟩])
  (.seq
  (.seq
  (.reg [⟨.v 16, .p .mv, [.k (.m (.i .i64 0))], none⟩])
  (.blk 0
  c14_L0))
  (.seq
  (.reg [⟨.l 33, .r (.ld true 8), [.v 6], none⟩,
    ⟨.l 34, .l (.cal 11), [.l 33], none⟩,
    ⟨.l 35, .p (.ext 0), [.l 34], none⟩,
    ⟨.l 36, .p (.ext 1), [.l 34], none⟩,
    ⟨.v 2, .p .mv, [.l 35], none⟩,
    ⟨.v 3, .p .mv, [.l 36], none⟩])
  .ret))))))⟩

/- cellular/wolfram.Conjugate -/
def c15_B0 : C :=
  (.seq
  (.reg [⟨.v 17, .p (.bin .lss), [.v 16, .k (.m (.i .i64 8))], none⟩])
  (.seq
  (.ite (.v 17)
    .skip
    (.ex 0))
  (.seq
  (.blk 1
  (.seq
  (.reg [⟨.l 18, .p .mv, [.v 16], none⟩,
    ⟨.v 7, .p .mv, [.l 18], none⟩])
  (.reg [⟨.l 19, .p .mv, [.v 7], none⟩,
    ⟨.l 20, .p .mv, [.v 7], none⟩,
    ⟨.l 21, .p (.bin .sub), [.k (.m (.i .i64 7)), .l 20], none⟩,
    ⟨.l 22, .p (.ixaA 8 1), [.v 4, .l 21], none⟩,
    ⟨.l 23, .r (.ld false 1), [.l 22], none⟩,
    ⟨.l 24, .p (.bin .sub), [.k (.m (.i .i64 1)), .l 23], none⟩,
    ⟨.l 25, .p (.ixaA 8 1), [.v 6, .l 19], none⟩,
    ⟨.no, .l (.st 1), [.l 25, .l 24], none⟩])))
  (.reg [⟨.l 26, .p (.bin .add), [.v 16, .k (.m (.i .i64 1))], none⟩,
    ⟨.v 16, .p .mv, [.l 26], none⟩]))))
def c15_L0 : C := .loop [0, 2, 3, 5, 7, 14, 17] c15_B0
def c15 : F := ⟨1, [.t 2, .t 3],
  (.seq
  (.reg [⟨.v 2, .p .mv, [.k (.m (.i .i64 0))], none⟩,
    ⟨.v 3, .p .mv, [.k (.m (.i .i64 0))], none⟩])
  (.seq
  (.reg [⟨.l 9, .p .mv, [.v 0], none⟩,
    ⟨.l 10, .l (.cal 9), [.l 9], none⟩,
    ⟨.l 8, .p .mv, [.l 10], none⟩,
    ⟨.l 11, .p (.ext 0), [.l 8], none⟩,
    ⟨.l 12, .p (.ext 1), [.l 8], none⟩,
    ⟨.v 4, .l (.alp 4 [.m (.i .i64 0), .m (.i .i64 0), .m (.i .i64 0), .m (.i .i64 0), .m (.i .i64 0), .m (.i .i64 0), .m (.i .i64 0), .m (.i .i64 0)]), [], none⟩,
    ⟨.no, .l (.st 8), [.v 4, .l 11], none⟩,
    ⟨.v 5, .p .mv, [.l 12], none⟩])
  (.seq
  (.seq
  (.reg [⟨.l 13, .p .mv, [.v 5], none⟩,
    ⟨.v 14, .p (.bin .neq), [.l 13, .k (.m (.i .i64 0))], none⟩])
  (.ite (.v 14)
    (.seq
    (.reg [⟨.l 15, .p .mv, [.v 5], none⟩,
      ⟨.v 2, .p .mv, [.k (.m (.i .i64 0))], none⟩,
      ⟨.v 3, .p .mv, [.l 15], none⟩])
    .ret)
    .skip))
  (.seq
  (.reg [⟨.v 6, .l (.alp 6 [.m (.i .i64 0), .m (.i .i64 0), .m (.i .i64 0), .m (.i .i64 0), .m (.i .i64 0), .m (.i .i64 0), .m (.i .i64 0), .m (.i .i64 0)]), [], none⟩])
  (.seq
  (.seq
  (.reg [⟨.v 16, .p .mv, [.k (.m (.i .i64 0))], none⟩])
  (.blk 0
  c15_L0))
  (.seq
  (.reg [⟨.l 27, .r (.ld true 8), [.v 6], none⟩,
    ⟨.l 28, .l (.cal 11), [.l 27], none⟩,
    ⟨.l 29, .p (.ext 0), [.l 28], none⟩,
    ⟨.l 30, .p (.ext 1), [.l 28], none⟩,
    ⟨.v 2, .p .mv, [.l 29], none⟩,
    ⟨.v 3, .p .mv, [.l 30], none⟩])
  .ret))))))⟩

/- cellular/wolfram.Parse -/
def c18 : F := ⟨1, [.t 2, .t 3, .t 4, .t 5],
  (.seq
  (.reg [⟨.v 2, .p .mv, [.k (.m (.i .i64 0))], none⟩,
    ⟨.v 3, .p .mv, [.k (.m (.i .i64 0))], none⟩,
    ⟨.v 4, .p .mv, [.k (.m (.b false))], none⟩,
    ⟨.v 5, .p .mv, [.k (.m (.i .i64 0))], none⟩])
  (.seq
  (.seq
  (.reg [⟨.l 25, .p .mv, [.v 0], none⟩,
    ⟨.l 26, .l (.cal 28), [.l 25, .k (.m (.s [87]))], none⟩,
    ⟨.l 24, .p .mv, [.l 26], none⟩,
    ⟨.l 27, .p (.ext 0), [.l 24], none⟩,
    ⟨.l 28, .p (.ext 1), [.l 24], none⟩,
    ⟨.v 6, .p .mv, [.l 27], none⟩,
    ⟨.v 7, .p .mv, [.l 28], none⟩])
  (.seq
  (.reg [⟨.v 29, .p .mv, [.v 7], none⟩])
  (.ite (.v 29)
    (.seq
    (.reg [⟨.l 31, .p .mv, [.v 6], none⟩,
      ⟨.l 32, .l (.cal 29), [.l 31], none⟩,
      ⟨.l 30, .p .mv, [.l 32], none⟩,
      ⟨.l 33, .p (.ext 0), [.l 30], none⟩,
      ⟨.l 34, .p (.ext 1), [.l 30], none⟩,
      ⟨.l 35, .p (.ext 2), [.l 30], none⟩,
      ⟨.v 8, .p .mv, [.l 33], none⟩,
      ⟨.v 9, .p .mv, [.l 34], none⟩,
      ⟨.v 10, .p .mv, [.l 35], none⟩])
    (.seq
    (.blk 0
    (.seq
    (.reg [⟨.l 37, .p .mv, [.v 9], none⟩,
      ⟨.l 38, .p (.un .not), [.l 37], none⟩,
      ⟨.v 36, .p .mv, [.l 38], none⟩])
    (.ite (.v 36)
      (.seq
      (.reg [⟨.v 2, .p .mv, [.k (.m (.i .i64 0))], none⟩,
        ⟨.v 3, .p .mv, [.k (.m (.i .i64 0))], none⟩,
        ⟨.v 4, .p .mv, [.k (.m (.b false))], none⟩,
        ⟨.v 5, .p .mv, [.k (.m (.i .i64 15))], none⟩])
      .ret)
      (.seq
      (.reg [⟨.l 40, .p .mv, [.v 10], none⟩,
        ⟨.l 41, .p (.un .not), [.l 40], none⟩,
        ⟨.l 42, .p .mv, [.l 41], none⟩,
        ⟨.l 43, .p .mv, [.v 8], some (.l 42, false)⟩,
        ⟨.l 44, .p (.bin .gtr), [.l 43, .k (.m (.i .i64 255))], some (.l 42, false)⟩,
        ⟨.l 45, .p .pick, [.l 42, .k (.m (.b true)), .l 44], none⟩,
        ⟨.v 39, .p .mv, [.l 45], none⟩])
      (.ite (.v 39)
        (.seq
        (.reg [⟨.v 2, .p .mv, [.k (.m (.i .i64 0))], none⟩,
          ⟨.v 3, .p .mv, [.k (.m (.i .i64 0))], none⟩,
          ⟨.v 4, .p .mv, [.k (.m (.b false))], none⟩,
          ⟨.v 5, .p .mv, [.k (.m (.i .i64 5))], none⟩])
        .ret)
        .skip)))))
    (.seq
    (.reg [⟨.l 46, .p .mv, [.v 8], none⟩,
      ⟨.v 2, .p .mv, [.k (.m (.i .i64 2))], none⟩,
      ⟨.v 3, .p .mv, [.l 46], none⟩,
      ⟨.v 4, .p .mv, [.k (.m (.b false))], none⟩,
      ⟨.v 5, .p .mv, [.k (.m (.i .i64 0))], none⟩])
    .ret)))
    .skip)))
  (.seq
  (.reg [⟨.l 48, .p .mv, [.v 0], none⟩,
    ⟨.l 49, .l (.cal 28), [.l 48, .k (.m (.s [84]))], none⟩,
    ⟨.l 47, .p .mv, [.l 49], none⟩,
    ⟨.l 50, .p (.ext 0), [.l 47], none⟩,
    ⟨.l 51, .p (.ext 1), [.l 47], none⟩,
    ⟨.v 11, .p .mv, [.l 50], none⟩,
    ⟨.v 12, .p .mv, [.l 51], none⟩])
  (.seq
  (.reg [⟨.l 53, .p .mv, [.v 11], none⟩,
    ⟨.l 54, .l (.cal 30), [.l 53, .k (.m (.s [47]))], none⟩,
    ⟨.l 52, .p .mv, [.l 54], none⟩,
    ⟨.l 55, .p (.ext 0), [.l 52], none⟩,
    ⟨.l 56, .p (.ext 1), [.l 52], none⟩,
    ⟨.l 57, .p (.ext 2), [.l 52], none⟩,
    ⟨.v 13, .p .mv, [.l 55], none⟩,
    ⟨.v 14, .p .mv, [.l 56], none⟩,
    ⟨.v 15, .p .mv, [.l 57], none⟩])
  (.seq
  (.reg [⟨.l 59, .p .mv, [.v 13], none⟩,
    ⟨.l 60, .l (.cal 29), [.l 59], none⟩,
    ⟨.l 58, .p .mv, [.l 60], none⟩,
    ⟨.l 61, .p (.ext 0), [.l 58], none⟩,
    ⟨.l 62, .p (.ext 1), [.l 58], none⟩,
    ⟨.l 63, .p (.ext 2), [.l 58], none⟩,
    ⟨.v 16, .p .mv, [.l 61], none⟩,
    ⟨.v 17, .p .mv, [.l 62], none⟩,
    ⟨.v 18, .p .mv, [.l 63], none⟩])
  (.seq
  (.reg [⟨.l 65, .p .mv, [.v 14], none⟩,
    ⟨.l 66, .l (.cal 29), [.l 65], none⟩,
    ⟨.l 64, .p .mv, [.l 66], none⟩,
    ⟨.l 67, .p (.ext 0), [.l 64], none⟩,
    ⟨.l 68, .p (.ext 1), [.l 64], none⟩,
    ⟨.l 69, .p (.ext 2), [.l 64], none⟩,
    ⟨.v 19, .p .mv, [.l 67], none⟩,
    ⟨.v 20, .p .mv, [.l 68], none⟩,
    ⟨.v 21, .p .mv, [.l 69], none⟩])
  (.seq
  (.blk 1
  (.seq
  (.reg [⟨.l 71, .p .mv, [.v 12], none⟩,
    ⟨.l 72, .p (.un .not), [.l 71], none⟩,
    ⟨.l 73, .p .mv, [.l 72], none⟩,
    ⟨.l 74, .p .mv, [.v 15], some (.l 73, false)⟩,
    ⟨.l 75, .p (.un .not), [.l 74], some (.l 73, false)⟩,
    ⟨.l 76, .p .pick, [.l 73, .k (.m (.b true)), .l 75], none⟩,
    ⟨.l 77, .p .mv, [.l 76], none⟩,
    ⟨.l 78, .p .mv, [.v 17], some (.l 77, false)⟩,
    ⟨.l 79, .p (.un .not), [.l 78], some (.l 77, false)⟩,
    ⟨.l 80, .p .pick, [.l 77, .k (.m (.b true)), .l 79], none⟩,
    ⟨.l 81, .p .mv, [.l 80], none⟩,
    ⟨.l 82, .p .mv, [.v 20], some (.l 81, false)⟩,
    ⟨.l 83, .p (.un .not), [.l 82], some (.l 81, false)⟩,
    ⟨.l 84, .p .pick, [.l 81, .k (.m (.b true)), .l 83], none⟩,
    ⟨.v 70, .p .mv, [.l 84], none⟩])
  (.ite (.v 70)
    (.seq
    (.reg [⟨.v 2, .p .mv, [.k (.m (.i .i64 0))], none⟩,
      ⟨.v 3, .p .mv, [.k (.m (.i .i64 0))], none⟩,
      ⟨.v 4, .p .mv, [.k (.m (.b false))], none⟩,
      ⟨.v 5, .p .mv, [.k (.m (.i .i64 15))], none⟩])
    .ret)
    (.seq
    (.reg [⟨.l 86, .p .mv, [.v 18], none⟩,
      ⟨.l 87, .p (.un .not), [.l 86], none⟩,
      ⟨.l 88, .p .mv, [.l 87], none⟩,
      ⟨.l 89, .p .mv, [.v 21], some (.l 88, false)⟩,
      ⟨.l 90, .p (.un .not), [.l 89], some (.l 88, false)⟩,
      ⟨.l 91, .p .pick, [.l 88, .k (.m (.b true)), .l 90], none⟩,
      ⟨.v 85, .p .mv, [.l 91], none⟩])
    (.ite (.v 85)
      (.seq
      (.reg [⟨.v 2, .p .mv, [.k (.m (.i .i64 0))], none⟩,
        ⟨.v 3, .p .mv, [.k (.m (.i .i64 0))], none⟩,
        ⟨.v 4, .p .mv, [.k (.m (.b false))], none⟩,
        ⟨.v 5, .p .mv, [.k (.m (.i .i64 5))], none⟩])
      .ret)
      .skip)))))
  (.seq
  (.seq
  (.reg [⟨.l 93, .p .mv, [.v 19], none⟩,
    ⟨.l 94, .p .mv, [.v 16], none⟩,
    ⟨.l 95, .l (.cal 20), [.l 93, .l 94], none⟩,
    ⟨.l 92, .p .mv, [.l 95], none⟩,
    ⟨.l 96, .p (.ext 0), [.l 92], none⟩,
    ⟨.l 97, .p (.ext 1), [.l 92], none⟩,
    ⟨.l 22, .p .mv, [.l 96], none⟩,
    ⟨.v 23, .p .mv, [.l 97], none⟩])
  (.seq
  (.reg [⟨.l 98, .p .mv, [.v 23], none⟩,
    ⟨.v 99, .p (.bin .neq), [.l 98, .k (.m (.i .i64 0))], none⟩])
  (.ite (.v 99)
    (.seq
    (.reg [⟨.v 2, .p .mv, [.k (.m (.i .i64 0))], none⟩,
      ⟨.v 3, .p .mv, [.k (.m (.i .i64 0))], none⟩,
      ⟨.v 4, .p .mv, [.k (.m (.b false))], none⟩,
      ⟨.v 5, .p .mv, [.k (.m (.i .i64 5))], none⟩])
    .ret)
    .skip)))
  (.seq
  (.reg [⟨.l 100, .p .mv, [.v 19], none⟩,
    ⟨.l 101, .p .mv, [.v 16], none⟩,
    ⟨.v 2, .p .mv, [.l 100], none⟩,
    ⟨.v 3, .p .mv, [.l 101], none⟩,
    ⟨.v 4, .p .mv, [.k (.m (.b true))], none⟩,
    ⟨.v 5, .p .mv, [.k (.m (.i .i64 0))], none⟩])
  .ret)))))))))⟩

/- cellular/cellularref10.Parse -/
def c19_B0 : C :=
  (.seq
  (.seq
  (.reg [⟨.l 42, .p .mv, [.v 9], none⟩,
    ⟨.l 43, .p .mv, [.v 0], none⟩,
    ⟨.l 44, .p (.len true), [.l 43], none⟩,
    ⟨.v 45, .p (.bin .lss), [.l 42, .l 44], none⟩])
  (.ite (.v 45)
    .skip
    (.ex 0)))
  (.seq
  (.blk 1
  (.seq
  (.reg [⟨.l 48, .p .mv, [.v 0], none⟩,
    ⟨.l 49, .p .mv, [.v 9], none⟩,
    ⟨.l 50, .p .ixs, [.l 48, .l 49], none⟩,
    ⟨.v 51, .p (.bin .eql), [.l 50, .k (.m (.i .u8 47))], none⟩])
  (.ite (.v 51)
    (.reg [⟨.l 52, .p .mv, [.v 9], none⟩,
      ⟨.v 8, .p .mv, [.l 52], none⟩])
    .skip)))
  (.reg [⟨.l 46, .p .mv, [.v 9], none⟩,
    ⟨.l 47, .p (.bin .add), [.l 46, .k (.m (.i .i64 1))], none⟩,
    ⟨.v 9, .p .mv, [.l 47], none⟩])))
def c19_L0 : C := .loop [2, 3, 4, 5, 28, 45, 51] c19_B0
def c19 : F := ⟨1, [.t 2, .t 3, .t 4, .t 5],
  (.seq
  (.reg [⟨.v 2, .p .mv, [.k (.m (.i .i64 0))], none⟩,
    ⟨.v 3, .p .mv, [.k (.m (.i .i64 0))], none⟩,
    ⟨.v 4, .p .mv, [.k (.m (.b false))], none⟩,
    ⟨.v 5, .p .mv, [.k (.m (.i .i64 0))], none⟩])
  (.seq
  (.seq
  (.reg [⟨.l 16, .p .mv, [.v 0], none⟩,
    ⟨.l 17, .p (.len true), [.l 16], none⟩,
    ⟨.l 18, .p (.bin .gtr), [.l 17, .k (.m (.i .i64 0))], none⟩,
    ⟨.l 19, .p .mv, [.l 18], none⟩,
    ⟨.l 20, .p .mv, [.v 0], some (.l 19, true)⟩,
    ⟨.l 21, .p .ixs, [.l 20, .k (.m (.i .i64 0))], some (.l 19, true)⟩,
    ⟨.l 22, .p (.bin .eql), [.l 21, .k (.m (.i .u8 87))], some (.l 19, true)⟩,
    ⟨.l 23, .p .pick, [.l 19, .l 22, .k (.m (.b false))], none⟩,
    ⟨.l 24, .p .mv, [.l 23], none⟩,
    ⟨.l 25, .p .mv, [.v 0], some (.l 24, true)⟩,
    ⟨.l 26, .p (.slc 0 true false false), [.l 25, .k (.m (.i .i64 1))], some (.l 24, true)⟩,
    ⟨.l 27, .l (.cal 31), [.l 26], some (.l 24, true)⟩,
    ⟨.v 28, .p .pick, [.l 24, .l 27, .k (.m (.b false))], none⟩])
  (.ite (.v 28)
    (.seq
    (.reg [⟨.l 30, .p .mv, [.v 0], none⟩,
      ⟨.l 31, .p (.slc 0 true false false), [.l 30, .k (.m (.i .i64 1))], none⟩,
      ⟨.l 32, .l (.cal 32), [.l 31], none⟩,
      ⟨.l 29, .p .mv, [.l 32], none⟩,
      ⟨.l 33, .p (.ext 0), [.l 29], none⟩,
      ⟨.l 34, .p (.ext 1), [.l 29], none⟩,
      ⟨.v 6, .p .mv, [.l 33], none⟩,
      ⟨.v 7, .p .mv, [.l 34], none⟩])
    (.seq
    (.seq
    (.reg [⟨.l 35, .p .mv, [.v 7], none⟩,
      ⟨.l 36, .p (.un .not), [.l 35], none⟩,
      ⟨.l 37, .p .mv, [.l 36], none⟩,
      ⟨.l 38, .p .mv, [.v 6], some (.l 37, false)⟩,
      ⟨.l 39, .p (.bin .gtr), [.l 38, .k (.m (.i .i64 255))], some (.l 37, false)⟩,
      ⟨.v 40, .p .pick, [.l 37, .k (.m (.b true)), .l 39], none⟩])
    (.ite (.v 40)
      (.seq
      (.reg [⟨.v 2, .p .mv, [.k (.m (.i .i64 0))], none⟩,
        ⟨.v 3, .p .mv, [.k (.m (.i .i64 0))], none⟩,
        ⟨.v 4, .p .mv, [.k (.m (.b false))], none⟩,
        ⟨.v 5, .p .mv, [.k (.m (.i .i64 5))], none⟩])
      .ret)
      .skip))
    (.seq
    (.reg [⟨.l 41, .p .mv, [.v 6], none⟩,
      ⟨.v 2, .p .mv, [.k (.m (.i .i64 2))], none⟩,
      ⟨.v 3, .p .mv, [.l 41], none⟩,
      ⟨.v 4, .p .mv, [.k (.m (.b false))], none⟩,
      ⟨.v 5, .p .mv, [.k (.m (.i .i64 0))], none⟩])
    .ret)))
    .skip))
  (.seq
  (.reg [⟨.v 8, .p .mv, [.k (.m (.i .i64 (-1)))], none⟩])
  (.seq
  (.seq
  (.reg [⟨.v 9, .p .mv, [.k (.m (.i .i64 0))], none⟩])
  (.blk 0
  c19_L0))
  (.seq
  (.seq
  (.reg [⟨.l 53, .p .mv, [.v 8], none⟩,
    ⟨.l 54, .p (.bin .lss), [.l 53, .k (.m (.i .i64 1))], none⟩,
    ⟨.l 55, .p .mv, [.l 54], none⟩,
    ⟨.l 56, .p .mv, [.v 0], some (.l 55, false)⟩,
    ⟨.l 57, .p .ixs, [.l 56, .k (.m (.i .i64 0))], some (.l 55, false)⟩,
    ⟨.l 58, .p (.bin .neq), [.l 57, .k (.m (.i .u8 84))], some (.l 55, false)⟩,
    ⟨.l 59, .p .pick, [.l 55, .k (.m (.b true)), .l 58], none⟩,
    ⟨.l 60, .p .mv, [.l 59], none⟩,
    ⟨.l 61, .p .mv, [.v 0], some (.l 60, false)⟩,
    ⟨.l 62, .p .mv, [.v 8], some (.l 60, false)⟩,
    ⟨.l 63, .p (.slc 0 true true false), [.l 61, .k (.m (.i .i64 1)), .l 62], some (.l 60, false)⟩,
    ⟨.l 64, .l (.cal 31), [.l 63], some (.l 60, false)⟩,
    ⟨.l 65, .p (.un .not), [.l 64], some (.l 60, false)⟩,
    ⟨.l 66, .p .pick, [.l 60, .k (.m (.b true)), .l 65], none⟩,
    ⟨.l 67, .p .mv, [.l 66], none⟩,
    ⟨.l 68, .p .mv, [.v 0], some (.l 67, false)⟩,
    ⟨.l 69, .p .mv, [.v 8], some (.l 67, false)⟩,
    ⟨.l 70, .p (.bin .add), [.l 69, .k (.m (.i .i64 1))], some (.l 67, false)⟩,
    ⟨.l 71, .p (.slc 0 true false false), [.l 68, .l 70], some (.l 67, false)⟩,
    ⟨.l 72, .l (.cal 31), [.l 71], some (.l 67, false)⟩,
    ⟨.l 73, .p (.un .not), [.l 72], some (.l 67, false)⟩,
    ⟨.v 74, .p .pick, [.l 67, .k (.m (.b true)), .l 73], none⟩])
  (.ite (.v 74)
    (.seq
    (.reg [⟨.v 2, .p .mv, [.k (.m (.i .i64 0))], none⟩,
      ⟨.v 3, .p .mv, [.k (.m (.i .i64 0))], none⟩,
      ⟨.v 4, .p .mv, [.k (.m (.b false))], none⟩,
      ⟨.v 5, .p .mv, [.k (.m (.i .i64 15))], none⟩])
    .ret)
    .skip))
  (.seq
  (.reg [⟨.l 76, .p .mv, [.v 0], none⟩,
    ⟨.l 77, .p .mv, [.v 8], none⟩,
    ⟨.l 78, .p (.slc 0 true true false), [.l 76, .k (.m (.i .i64 1)), .l 77], none⟩,
    ⟨.l 79, .l (.cal 32), [.l 78], none⟩,
    ⟨.l 75, .p .mv, [.l 79], none⟩,
    ⟨.l 80, .p (.ext 0), [.l 75], none⟩,
    ⟨.l 81, .p (.ext 1), [.l 75], none⟩,
    ⟨.v 10, .p .mv, [.l 80], none⟩,
    ⟨.v 11, .p .mv, [.l 81], none⟩])
  (.seq
  (.reg [⟨.l 83, .p .mv, [.v 0], none⟩,
    ⟨.l 84, .p .mv, [.v 8], none⟩,
    ⟨.l 85, .p (.bin .add), [.l 84, .k (.m (.i .i64 1))], none⟩,
    ⟨.l 86, .p (.slc 0 true false false), [.l 83, .l 85], none⟩,
    ⟨.l 87, .l (.cal 32), [.l 86], none⟩,
    ⟨.l 82, .p .mv, [.l 87], none⟩,
    ⟨.l 88, .p (.ext 0), [.l 82], none⟩,
    ⟨.l 89, .p (.ext 1), [.l 82], none⟩,
    ⟨.v 12, .p .mv, [.l 88], none⟩,
    ⟨.v 13, .p .mv, [.l 89], none⟩])
  (.seq
  (.seq
  (.reg [⟨.l 90, .p .mv, [.v 11], none⟩,
    ⟨.l 91, .p (.un .not), [.l 90], none⟩,
    ⟨.l 92, .p .mv, [.l 91], none⟩,
    ⟨.l 93, .p .mv, [.v 13], some (.l 92, false)⟩,
    ⟨.l 94, .p (.un .not), [.l 93], some (.l 92, false)⟩,
    ⟨.v 95, .p .pick, [.l 92, .k (.m (.b true)), .l 94], none⟩])
  (.ite (.v 95)
    (.seq
    (.reg [⟨.v 2, .p .mv, [.k (.m (.i .i64 0))], none⟩,
      ⟨.v 3, .p .mv, [.k (.m (.i .i64 0))], none⟩,
      ⟨.v 4, .p .mv, [.k (.m (.b false))], none⟩,
      ⟨.v 5, .p .mv, [.k (.m (.i .i64 5))], none⟩])
    .ret)
    .skip))
  (.seq
  (.seq
  (.reg [⟨.l 97, .p .mv, [.v 12], none⟩,
    ⟨.l 98, .p .mv, [.v 10], none⟩,
    ⟨.l 99, .l (.cal 21), [.l 97, .l 98], none⟩,
    ⟨.l 96, .p .mv, [.l 99], none⟩,
    ⟨.l 100, .p (.ext 0), [.l 96], none⟩,
    ⟨.l 101, .p (.ext 1), [.l 96], none⟩,
    ⟨.l 14, .p .mv, [.l 100], none⟩,
    ⟨.v 15, .p .mv, [.l 101], none⟩])
  (.seq
  (.reg [⟨.l 102, .p .mv, [.v 15], none⟩,
    ⟨.v 103, .p (.bin .neq), [.l 102, .k (.m (.i .i64 0))], none⟩])
  (.ite (.v 103)
    (.seq
    (.reg [⟨.v 2, .p .mv, [.k (.m (.i .i64 0))], none⟩,
      ⟨.v 3, .p .mv, [.k (.m (.i .i64 0))], none⟩,
      ⟨.v 4, .p .mv, [.k (.m (.b false))], none⟩,
      ⟨.v 5, .p .mv, [.k (.m (.i .i64 5))], none⟩])
    .ret)
    .skip)))
  (.seq
  (.reg [⟨.l 104, .p .mv, [.v 12], none⟩,
    ⟨.l 105, .p .mv, [.v 10], none⟩,
    ⟨.v 2, .p .mv, [.l 104], none⟩,
    ⟨.v 3, .p .mv, [.l 105], none⟩,
    ⟨.v 4, .p .mv, [.k (.m (.b true))], none⟩,
    ⟨.v 5, .p .mv, [.k (.m (.i .i64 0))], none⟩])
  .ret))))))))))⟩

/- cellular/wolfram.Digits -/
def c20_B0 : C :=
  (.seq
  (.reg [⟨.v 18, .p (.bin .lss), [.v 17, .v 16], none⟩])
  (.seq
  (.ite (.v 18)
    .skip
    (.ex 0))
  (.seq
  (.blk 1
  (.seq
  (.reg [⟨.l 19, .p .mv, [.v 6], none⟩,
    ⟨.l 20, .p .mv, [.v 1], none⟩,
    ⟨.l 21, .p .mv, [.v 0], none⟩,
    ⟨.l 22, .p (.bin .rem), [.l 20, .l 21], none⟩,
    ⟨.l 23, .p (.bsl 1 [.m (.i .i64 0)] 1 [0]), [.l 22], none⟩,
    ⟨.l 24, .l (.app 3 1 8), [.l 19, .l 23], none⟩,
    ⟨.v 6, .p .mv, [.l 24], none⟩])
  (.reg [⟨.l 25, .p .mv, [.v 1], none⟩,
    ⟨.l 26, .p .mv, [.v 0], none⟩,
    ⟨.l 27, .p (.bin .quo), [.l 25, .l 26], none⟩,
    ⟨.v 1, .p .mv, [.l 27], none⟩])))
  (.reg [⟨.l 28, .p (.bin .add), [.v 17, .k (.m (.i .i64 1))], none⟩,
    ⟨.v 17, .p .mv, [.l 28], none⟩]))))
def c20_L0 : C := .loop [4, 5, 12, 14, 18] c20_B0
def c20 : F := ⟨2, [.t 4, .t 5],
  (.seq
  (.reg [⟨.v 4, .p .mv, [.k (.m (.nl 4))], none⟩,
    ⟨.v 5, .p .mv, [.k (.m (.i .i64 0))], none⟩])
  (.seq
  (.seq
  (.reg [⟨.l 7, .p .mv, [.v 0], none⟩,
    ⟨.l 8, .p (.bin .lss), [.l 7, .k (.m (.i .i64 2))], none⟩,
    ⟨.l 9, .p .mv, [.l 8], none⟩,
    ⟨.l 10, .p .mv, [.v 0], some (.l 9, false)⟩,
    ⟨.l 11, .p (.bin .gtr), [.l 10, .k (.m (.i .i64 8))], some (.l 9, false)⟩,
    ⟨.v 12, .p .pick, [.l 9, .k (.m (.b true)), .l 11], none⟩])
  (.ite (.v 12)
    (.seq
    (.reg [⟨.v 4, .p .mv, [.k (.m (.nl 4))], none⟩,
      ⟨.v 5, .p .mv, [.k (.m (.i .i64 2))], none⟩])
    .ret)
    .skip))
  (.seq
  (.seq
  (.reg [⟨.l 13, .p .mv, [.v 1], none⟩,
    ⟨.v 14, .p (.bin .lss), [.l 13, .k (.m (.i .i64 0))], none⟩])
  (.ite (.v 14)
    (.seq
    (.reg [⟨.v 4, .p .mv, [.k (.m (.nl 4))], none⟩,
      ⟨.v 5, .p .mv, [.k (.m (.i .i64 5))], none⟩])
    .ret)
    .skip))
  (.seq
  (.reg [⟨.v 6, .p .mv, [.k (.m (.nl 4))], none⟩])
  (.seq
  (.seq
  (.reg [⟨.l 15, .p .mv, [.v 0], none⟩,
    ⟨.v 16, .l (.cal 33), [.l 15], none⟩,
    ⟨.v 17, .p .mv, [.k (.m (.i .i64 0))], none⟩])
  (.blk 0
  c20_L0))
  (.seq
  (.seq
  (.reg [⟨.l 29, .p .mv, [.v 1], none⟩,
    ⟨.v 30, .p (.bin .gtr), [.l 29, .k (.m (.i .i64 0))], none⟩])
  (.ite (.v 30)
    (.seq
    (.reg [⟨.v 4, .p .mv, [.k (.m (.nl 4))], none⟩,
      ⟨.v 5, .p .mv, [.k (.m (.i .i64 5))], none⟩])
    .ret)
    .skip))
  (.seq
  (.reg [⟨.l 31, .p .mv, [.v 6], none⟩,
    ⟨.v 4, .p .mv, [.l 31], none⟩,
    ⟨.v 5, .p .mv, [.k (.m (.i .i64 0))], none⟩])
  .ret)))))))⟩

/- cellular/cellularref10.Digits -/
def c21_B0 : C :=
  (.seq
  (.seq
  (.reg [⟨.l 16, .p .mv, [.v 7], none⟩,
    ⟨.l 17, .p .mv, [.v 0], none⟩,
    ⟨.l 18, .p (.bin .sub), [.l 17, .k (.m (.i .i64 1))], none⟩,
    ⟨.l 19, .p (.bin .mul), [.k (.m (.i .i64 3)), .l 18], none⟩,
    ⟨.v 20, .p (.bin .leq), [.l 16, .l 19], none⟩])
  (.ite (.v 20)
    .skip
    (.ex 0)))
  (.seq
  (.blk 1
  (.seq
  (.reg [⟨.l 23, .p .mv, [.v 6], none⟩,
    ⟨.l 24, .p .mv, [.v 1], none⟩,
    ⟨.l 25, .p .mv, [.v 0], none⟩,
    ⟨.l 26, .p (.bin .rem), [.l 24, .l 25], none⟩,
    ⟨.l 27, .p (.bsl 1 [.m (.i .i64 0)] 1 [0]), [.l 26], none⟩,
    ⟨.l 28, .l (.app 3 1 8), [.l 23, .l 27], none⟩,
    ⟨.v 6, .p .mv, [.l 28], none⟩])
  (.reg [⟨.l 29, .p .mv, [.v 1], none⟩,
    ⟨.l 30, .p .mv, [.v 0], none⟩,
    ⟨.l 31, .p (.bin .quo), [.l 29, .l 30], none⟩,
    ⟨.v 1, .p .mv, [.l 31], none⟩])))
  (.reg [⟨.l 21, .p .mv, [.v 7], none⟩,
    ⟨.l 22, .p (.bin .add), [.l 21, .k (.m (.i .i64 1))], none⟩,
    ⟨.v 7, .p .mv, [.l 22], none⟩])))
def c21_L0 : C := .loop [4, 5, 13, 15, 20] c21_B0
def c21 : F := ⟨2, [.t 4, .t 5],
  (.seq
  (.reg [⟨.v 4, .p .mv, [.k (.m (.nl 4))], none⟩,
    ⟨.v 5, .p .mv, [.k (.m (.i .i64 0))], none⟩])
  (.seq
  (.seq
  (.reg [⟨.l 8, .p .mv, [.v 0], none⟩,
    ⟨.l 9, .p (.bin .lss), [.l 8, .k (.m (.i .i64 2))], none⟩,
    ⟨.l 10, .p .mv, [.l 9], none⟩,
    ⟨.l 11, .p .mv, [.v 0], some (.l 10, false)⟩,
    ⟨.l 12, .p (.bin .gtr), [.l 11, .k (.m (.i .i64 8))], some (.l 10, false)⟩,
    ⟨.v 13, .p .pick, [.l 10, .k (.m (.b true)), .l 12], none⟩])
  (.ite (.v 13)
    (.seq
    (.reg [⟨.v 4, .p .mv, [.k (.m (.nl 4))], none⟩,
      ⟨.v 5, .p .mv, [.k (.m (.i .i64 2))], none⟩])
    .ret)
    .skip))
  (.seq
  (.seq
  (.reg [⟨.l 14, .p .mv, [.v 1], none⟩,
    ⟨.v 15, .p (.bin .lss), [.l 14, .k (.m (.i .i64 0))], none⟩])
  (.ite (.v 15)
    (.seq
    (.reg [⟨.v 4, .p .mv, [.k (.m (.nl 4))], none⟩,
      ⟨.v 5, .p .mv, [.k (.m (.i .i64 5))], none⟩])
    .ret)
    .skip))
  (.seq
  (.reg [⟨.v 6, .p .mv, [.k (.m (.nl 4))], none⟩])
  (.seq
  (.seq
  (.reg [⟨.v 7, .p .mv, [.k (.m (.i .i64 0))], none⟩])
  (.blk 0
  c21_L0))
  (.seq
  (.seq
  (.reg [⟨.l 32, .p .mv, [.v 1], none⟩,
    ⟨.v 33, .p (.bin .gtr), [.l 32, .k (.m (.i .i64 0))], none⟩])
  (.ite (.v 33)
    (.seq
    (.reg [⟨.v 4, .p .mv, [.k (.m (.nl 4))], none⟩,
      ⟨.v 5, .p .mv, [.k (.m (.i .i64 5))], none⟩])
    .ret)
    .skip))
  (.seq
  (.reg [⟨.l 34, .p .mv, [.v 6], none⟩,
    ⟨.v 4, .p .mv, [.l 34], none⟩,
    ⟨.v 5, .p .mv, [.k (.m (.i .i64 0))], none⟩])
  .ret)))))))⟩

/- cellular/cellularref10.Same -/
def c22_B0 : C :=
  (.seq
  (.seq
  (.reg [⟨.l 11, .p .mv, [.v 5], none⟩,
    ⟨.l 12, .p .mv, [.v 0], none⟩,
    ⟨.l 13, .p (.len false), [.l 12], none⟩,
    ⟨.v 14, .p (.bin .lss), [.l 11, .l 13], none⟩])
  (.ite (.v 14)
    .skip
    (.ex 0)))
  (.seq
  (.blk 1
  (.seq
  (.reg [⟨.l 17, .p .mv, [.v 0], none⟩,
    ⟨.l 18, .p .mv, [.v 5], none⟩,
    ⟨.l 19, .p (.ixa 1), [.l 17, .l 18], none⟩,
    ⟨.l 20, .r (.ld false 1), [.l 19], none⟩,
    ⟨.l 21, .p .mv, [.v 1], none⟩,
    ⟨.l 22, .p .mv, [.v 5], none⟩,
    ⟨.l 23, .p (.ixa 1), [.l 21, .l 22], none⟩,
    ⟨.l 24, .r (.ld false 1), [.l 23], none⟩,
    ⟨.v 25, .p (.bin .neq), [.l 20, .l 24], none⟩])
  (.ite (.v 25)
    (.seq
    (.reg [⟨.v 4, .p .mv, [.k (.m (.b false))], none⟩])
    .ret)
    .skip)))
  (.reg [⟨.l 15, .p .mv, [.v 5], none⟩,
    ⟨.l 16, .p (.bin .add), [.l 15, .k (.m (.i .i64 1))], none⟩,
    ⟨.v 5, .p .mv, [.l 16], none⟩])))
def c22_L0 : C := .loop [4, 10, 14, 25] c22_B0
def c22 : F := ⟨2, [.t 4],
  (.seq
  (.reg [⟨.v 4, .p .mv, [.k (.m (.b false))], none⟩])
  (.seq
  (.seq
  (.reg [⟨.l 6, .p .mv, [.v 0], none⟩,
    ⟨.l 7, .p (.len false), [.l 6], none⟩,
    ⟨.l 8, .p .mv, [.v 1], none⟩,
    ⟨.l 9, .p (.len false), [.l 8], none⟩,
    ⟨.v 10, .p (.bin .neq), [.l 7, .l 9], none⟩])
  (.ite (.v 10)
    (.seq
    (.reg [⟨.v 4, .p .mv, [.k (.m (.b false))], none⟩])
    .ret)
    .skip))
  (.seq
  (.seq
  (.reg [⟨.v 5, .p .mv, [.k (.m (.i .i64 0))], none⟩])
  (.blk 0
  c22_L0))
  (.seq
  (.reg [⟨.v 4, .p .mv, [.k (.m (.b true))], none⟩])
  .ret))))⟩

/- slices.ContainsFunc[[]int,int] -/
def c25 : F := ⟨2, [.t 4],
  (.seq
  (.reg [⟨.v 4, .p .mv, [.k (.m (.b false))], none⟩])
  (.seq
  (.reg [⟨.l 5, .p .mv, [.v 0], none⟩,
    ⟨.l 6, .p .mv, [.v 1], none⟩,
    ⟨.l 7, .l (.cal 35), [.l 5, .l 6], none⟩,
    ⟨.l 8, .p (.bin .geq), [.l 7, .k (.m (.i .i64 0))], none⟩,
    ⟨.v 4, .p .mv, [.l 8], none⟩])
  .ret))⟩

/- cellular/wolfram.Number$1 -/
def c26 : F := ⟨1, [.t 2],
  (.seq
  (.reg [⟨.v 2, .p .mv, [.k (.m (.b false))], none⟩])
  (.seq
  (.reg [⟨.l 3, .p .mv, [.v 0], none⟩,
    ⟨.l 4, .p (.bin .neq), [.l 3, .k (.m (.i .i64 0))], none⟩,
    ⟨.l 5, .p .mv, [.l 4], none⟩,
    ⟨.l 6, .p .mv, [.v 0], some (.l 5, true)⟩,
    ⟨.l 7, .p (.bin .neq), [.l 6, .k (.m (.i .i64 1))], some (.l 5, true)⟩,
    ⟨.l 8, .p .pick, [.l 5, .l 7, .k (.m (.b false))], none⟩,
    ⟨.v 2, .p .mv, [.l 8], none⟩])
  .ret))⟩

/- strings.CutPrefix -/
def c28 : F := ⟨2, [.t 4, .t 5],
  (.seq
  (.reg [⟨.v 4, .p .mv, [.k (.m (.s []))], none⟩,
    ⟨.v 5, .p .mv, [.k (.m (.b false))], none⟩])
  (.seq
  (.reg [⟨.l 6, .p .mv, [.v 0], none⟩,
    ⟨.l 7, .p .mv, [.v 1], none⟩,
    ⟨.l 8, .l (.cal 36), [.l 6, .l 7], none⟩,
    ⟨.l 9, .p (.ext 0), [.l 8], none⟩,
    ⟨.l 10, .p (.ext 1), [.l 8], none⟩,
    ⟨.v 4, .p .mv, [.l 9], none⟩,
    ⟨.v 5, .p .mv, [.l 10], none⟩])
  .ret))⟩

/- cellular/wolfram.number -/
def c29 : F := ⟨1, [.t 2, .t 3, .t 4],
  (.seq
  (.reg [⟨.v 2, .p .mv, [.k (.m (.i .i64 0))], none⟩,
    ⟨.v 3, .p .mv, [.k (.m (.b false))], none⟩,
    ⟨.v 4, .p .mv, [.k (.m (.b false))], none⟩])
  (.seq
  (.seq
  (.reg [⟨.l 6, .p .mv, [.v 0], none⟩,
    ⟨.l 7, .p (.bin .eql), [.l 6, .k (.m (.s []))], none⟩,
    ⟨.l 8, .p .mv, [.l 7], none⟩,
    ⟨.l 9, .p .mv, [.v 0], some (.l 8, false)⟩,
    ⟨.l 10, .p (.len true), [.l 9], some (.l 8, false)⟩,
    ⟨.l 11, .p (.bin .gtr), [.l 10, .k (.m (.i .i64 1))], some (.l 8, false)⟩,
    ⟨.l 12, .p .mv, [.l 11], some (.l 8, false)⟩,
    ⟨.l 13, .p .mv, [.v 0], some (.l 12, true)⟩,
    ⟨.l 14, .p .ixs, [.l 13, .k (.m (.i .i64 0))], some (.l 12, true)⟩,
    ⟨.l 15, .p (.bin .eql), [.l 14, .k (.m (.i .u8 48))], some (.l 12, true)⟩,
    ⟨.l 16, .p .pick, [.l 12, .l 15, .k (.m (.b false))], some (.l 8, false)⟩,
    ⟨.l 17, .p .pick, [.l 8, .k (.m (.b true)), .l 16], none⟩,
    ⟨.l 18, .p .mv, [.l 17], none⟩,
    ⟨.l 19, .p .mv, [.v 0], some (.l 18, false)⟩,
    ⟨.l 20, .l (.cal 37), [.l 19, .k (.m (.s [48, 49, 50, 51, 52, 53, 54, 55, 56, 57]))], some (.l 18, false)⟩,
    ⟨.l 21, .p (.bin .neq), [.l 20, .k (.m (.s []))], some (.l 18, false)⟩,
    ⟨.v 22, .p .pick, [.l 18, .k (.m (.b true)), .l 21], none⟩])
  (.ite (.v 22)
    (.seq
    (.reg [⟨.v 2, .p .mv, [.k (.m (.i .i64 0))], none⟩,
      ⟨.v 3, .p .mv, [.k (.m (.b false))], none⟩,
      ⟨.v 4, .p .mv, [.k (.m (.b false))], none⟩])
    .ret)
    .skip))
  (.seq
  (.reg [⟨.l 24, .p .mv, [.v 0], none⟩,
    ⟨.l 25, .l (.cal 38), [.l 24], none⟩,
    ⟨.l 23, .p .mv, [.l 25], none⟩,
    ⟨.l 26, .p (.ext 0), [.l 23], none⟩,
    ⟨.l 27, .p (.ext 1), [.l 23], none⟩,
    ⟨.v 2, .p .mv, [.l 26], none⟩,
    ⟨.v 5, .p .mv, [.l 27], none⟩])
  (.seq
  (.reg [⟨.l 28, .p .mv, [.v 2], none⟩,
    ⟨.l 29, .p .mv, [.v 5], none⟩,
    ⟨.l 30, .p (.eqn false 3), [.l 29], none⟩,
    ⟨.v 2, .p .mv, [.l 28], none⟩,
    ⟨.v 3, .p .mv, [.k (.m (.b true))], none⟩,
    ⟨.v 4, .p .mv, [.l 30], none⟩])
  .ret))))⟩

/- strings.Cut -/
def c30 : F := ⟨2, [.t 4, .t 5, .t 6],
  (.seq
  (.reg [⟨.v 4, .p .mv, [.k (.m (.s []))], none⟩,
    ⟨.v 5, .p .mv, [.k (.m (.s []))], none⟩,
    ⟨.v 6, .p .mv, [.k (.m (.b false))], none⟩])
  (.seq
  (.reg [⟨.l 7, .p .mv, [.v 0], none⟩,
    ⟨.l 8, .p .mv, [.v 1], none⟩,
    ⟨.l 9, .l (.cal 39), [.l 7, .l 8], none⟩,
    ⟨.l 10, .p (.ext 0), [.l 9], none⟩,
    ⟨.l 11, .p (.ext 1), [.l 9], none⟩,
    ⟨.l 12, .p (.ext 2), [.l 9], none⟩,
    ⟨.v 4, .p .mv, [.l 10], none⟩,
    ⟨.v 5, .p .mv, [.l 11], none⟩,
    ⟨.v 6, .p .mv, [.l 12], none⟩])
  .ret))⟩

/- cellular/cellularref10.Numeral -/
def c31_B0 : C :=
  (.seq
  (.seq
  (.reg [⟨.l 17, .p .mv, [.v 3], none⟩,
    ⟨.l 18, .p .mv, [.v 0], none⟩,
    ⟨.l 19, .p (.len true), [.l 18], none⟩,
    ⟨.v 20, .p (.bin .lss), [.l 17, .l 19], none⟩])
  (.ite (.v 20)
    .skip
    (.ex 0)))
  (.seq
  (.blk 1
  (.seq
  (.reg [⟨.l 23, .p .mv, [.v 0], none⟩,
    ⟨.l 24, .p .mv, [.v 3], none⟩,
    ⟨.l 25, .p .ixs, [.l 23, .l 24], none⟩,
    ⟨.l 26, .p (.bin .lss), [.l 25, .k (.m (.i .u8 48))], none⟩,
    ⟨.l 27, .p .mv, [.l 26], none⟩,
    ⟨.l 28, .p .mv, [.v 0], some (.l 27, false)⟩,
    ⟨.l 29, .p .mv, [.v 3], some (.l 27, false)⟩,
    ⟨.l 30, .p .ixs, [.l 28, .l 29], some (.l 27, false)⟩,
    ⟨.l 31, .p (.bin .gtr), [.l 30, .k (.m (.i .u8 57))], some (.l 27, false)⟩,
    ⟨.v 32, .p .pick, [.l 27, .k (.m (.b true)), .l 31], none⟩])
  (.ite (.v 32)
    (.seq
    (.reg [⟨.v 2, .p .mv, [.k (.m (.b false))], none⟩])
    .ret)
    .skip)))
  (.reg [⟨.l 21, .p .mv, [.v 3], none⟩,
    ⟨.l 22, .p (.bin .add), [.l 21, .k (.m (.i .i64 1))], none⟩,
    ⟨.v 3, .p .mv, [.l 22], none⟩])))
def c31_L0 : C := .loop [2, 16, 20, 32] c31_B0
def c31 : F := ⟨1, [.t 2],
  (.seq
  (.reg [⟨.v 2, .p .mv, [.k (.m (.b false))], none⟩])
  (.seq
  (.seq
  (.reg [⟨.l 4, .p .mv, [.v 0], none⟩,
    ⟨.l 5, .p (.len true), [.l 4], none⟩,
    ⟨.l 6, .p (.bin .eql), [.l 5, .k (.m (.i .i64 0))], none⟩,
    ⟨.l 7, .p .mv, [.l 6], none⟩,
    ⟨.l 8, .p .mv, [.v 0], some (.l 7, false)⟩,
    ⟨.l 9, .p (.len true), [.l 8], some (.l 7, false)⟩,
    ⟨.l 10, .p (.bin .gtr), [.l 9, .k (.m (.i .i64 1))], some (.l 7, false)⟩,
    ⟨.l 11, .p .mv, [.l 10], some (.l 7, false)⟩,
    ⟨.l 12, .p .mv, [.v 0], some (.l 11, true)⟩,
    ⟨.l 13, .p .ixs, [.l 12, .k (.m (.i .i64 0))], some (.l 11, true)⟩,
    ⟨.l 14, .p (.bin .eql), [.l 13, .k (.m (.i .u8 48))], some (.l 11, true)⟩,
    ⟨.l 15, .p .pick, [.l 11, .l 14, .k (.m (.b false))], some (.l 7, false)⟩,
    ⟨.v 16, .p .pick, [.l 7, .k (.m (.b true)), .l 15], none⟩])
  (.ite (.v 16)
    (.seq
    (.reg [⟨.v 2, .p .mv, [.k (.m (.b false))], none⟩])
    .ret)
    .skip))
  (.seq
  (.seq
  (.reg [⟨.v 3, .p .mv, [.k (.m (.i .i64 0))], none⟩])
  (.blk 0
  c31_L0))
  (.seq
  (.reg [⟨.v 2, .p .mv, [.k (.m (.b true))], none⟩])
  .ret))))⟩

/- cellular/cellularref10.Value -/
def c32_B0 : C :=
  (.seq
  (.seq
  (.reg [⟨.l 7, .p .mv, [.v 5], none⟩,
    ⟨.l 8, .p .mv, [.v 0], none⟩,
    ⟨.l 9, .p (.len true), [.l 8], none⟩,
    ⟨.v 10, .p (.bin .lss), [.l 7, .l 9], none⟩])
  (.ite (.v 10)
    .skip
    (.ex 0)))
  (.seq
  (.blk 1
  (.seq
  (.reg [⟨.l 13, .p .mv, [.v 0], none⟩,
    ⟨.l 14, .p .mv, [.v 5], none⟩,
    ⟨.l 15, .p .ixs, [.l 13, .l 14], none⟩,
    ⟨.l 16, .p (.bin .sub), [.l 15, .k (.m (.i .u8 48))], none⟩,
    ⟨.l 17, .p (.cv .i64), [.l 16], none⟩,
    ⟨.v 6, .p .mv, [.l 17], none⟩])
  (.seq
  (.seq
  (.reg [⟨.l 18, .p .mv, [.v 4], none⟩,
    ⟨.l 19, .p .mv, [.v 6], none⟩,
    ⟨.l 20, .p (.bin .sub), [.k (.m (.i .i64 9223372036854775807)), .l 19], none⟩,
    ⟨.l 21, .p (.bin .quo), [.l 20, .k (.m (.i .i64 10))], none⟩,
    ⟨.v 22, .p (.bin .gtr), [.l 18, .l 21], none⟩])
  (.ite (.v 22)
    (.seq
    (.reg [⟨.v 2, .p .mv, [.k (.m (.i .i64 0))], none⟩,
      ⟨.v 3, .p .mv, [.k (.m (.b false))], none⟩])
    .ret)
    .skip))
  (.reg [⟨.l 23, .p .mv, [.v 4], none⟩,
    ⟨.l 24, .p (.bin .mul), [.k (.m (.i .i64 10)), .l 23], none⟩,
    ⟨.l 25, .p .mv, [.v 6], none⟩,
    ⟨.l 26, .p (.bin .add), [.l 24, .l 25], none⟩,
    ⟨.v 4, .p .mv, [.l 26], none⟩]))))
  (.reg [⟨.l 11, .p .mv, [.v 5], none⟩,
    ⟨.l 12, .p (.bin .add), [.l 11, .k (.m (.i .i64 1))], none⟩,
    ⟨.v 5, .p .mv, [.l 12], none⟩])))
def c32_L0 : C := .loop [2, 3, 6, 10, 22] c32_B0
def c32 : F := ⟨1, [.t 2, .t 3],
  (.seq
  (.reg [⟨.v 2, .p .mv, [.k (.m (.i .i64 0))], none⟩,
    ⟨.v 3, .p .mv, [.k (.m (.b false))], none⟩])
  (.seq
  (.reg [⟨.v 4, .p .mv, [.k (.m (.i .i64 0))], none⟩])
  (.seq
  (.seq
  (.reg [⟨.v 5, .p .mv, [.k (.m (.i .i64 0))], none⟩])
  (.blk 0
  c32_L0))
  (.seq
  (.reg [⟨.l 27, .p .mv, [.v 4], none⟩,
    ⟨.v 2, .p .mv, [.l 27], none⟩,
    ⟨.v 3, .p .mv, [.k (.m (.b true))], none⟩])
  .ret))))⟩

/- cellular/wolfram.sums -/
def c33 : F := ⟨1, [.t 2],
  (.seq
  (.reg [⟨.v 2, .p .mv, [.k (.m (.i .i64 0))], none⟩])
  (.seq
  (.reg [⟨.l 3, .p .mv, [.v 0], none⟩,
    ⟨.l 4, .p (.bin .mul), [.k (.m (.i .i64 3)), .l 3], none⟩,
    ⟨.l 5, .p (.bin .sub), [.l 4, .k (.m (.i .i64 2))], none⟩,
    ⟨.v 2, .p .mv, [.l 5], none⟩])
  .ret))⟩

/- slices.IndexFunc[[]int,int] -/
def c35_B0 : C :=
  (.seq
  (.reg [⟨.v 9, .p (.bin .lss), [.v 8, .v 7], none⟩])
  (.seq
  (.ite (.v 9)
    .skip
    (.ex 0))
  (.seq
  (.blk 1
  (.seq
  (.reg [⟨.l 10, .p .mv, [.v 8], none⟩,
    ⟨.v 5, .p .mv, [.l 10], none⟩])
  (.seq
  (.reg [⟨.l 11, .p .mv, [.v 1], none⟩,
    ⟨.l 12, .p .mv, [.v 0], none⟩,
    ⟨.l 13, .p .mv, [.v 5], none⟩,
    ⟨.l 14, .p (.ixa 1), [.l 12, .l 13], none⟩,
    ⟨.l 15, .r (.ld false 1), [.l 14], none⟩,
    ⟨.v 16, .l .cav, [.l 11, .l 15], none⟩])
  (.ite (.v 16)
    (.seq
    (.reg [⟨.l 17, .p .mv, [.v 5], none⟩,
      ⟨.v 4, .p .mv, [.l 17], none⟩])
    .ret)
    .skip))))
  (.reg [⟨.l 18, .p (.bin .add), [.v 8, .k (.m (.i .i64 1))], none⟩,
    ⟨.v 8, .p .mv, [.l 18], none⟩]))))
def c35_L0 : C := .loop [4, 5, 9, 16] c35_B0
def c35 : F := ⟨2, [.t 4],
  (.seq
  (.reg [⟨.v 4, .p .mv, [.k (.m (.i .i64 0))], none⟩])
  (.seq
  (.seq
  (.reg [⟨.l 6, .p .mv, [.v 0], none⟩,
    ⟨.v 7, .p (.len false), [.l 6], none⟩,
    ⟨.v 8, .p .mv, [.k (.m (.i .i64 0))], none⟩])
  (.blk 0
  c35_L0))
  (.seq
  (.reg [⟨.v 4, .p .mv, [.k (.m (.i .i64 (-1)))], none⟩])
  .ret)))⟩

/- internal/stringslite.CutPrefix -/
def c36 : F := ⟨2, [.t 4, .t 5],
  (.seq
  (.reg [⟨.v 4, .p .mv, [.k (.m (.s []))], none⟩,
    ⟨.v 5, .p .mv, [.k (.m (.b false))], none⟩])
  (.seq
  (.seq
  (.reg [⟨.l 6, .p .mv, [.v 0], none⟩,
    ⟨.l 7, .p .mv, [.v 1], none⟩,
    ⟨.l 8, .l (.cal 40), [.l 6, .l 7], none⟩,
    ⟨.v 9, .p (.un .not), [.l 8], none⟩])
  (.ite (.v 9)
    (.seq
    (.reg [⟨.l 10, .p .mv, [.v 0], none⟩,
      ⟨.v 4, .p .mv, [.l 10], none⟩,
      ⟨.v 5, .p .mv, [.k (.m (.b false))], none⟩])
    .ret)
    .skip))
  (.seq
  (.reg [⟨.l 11, .p .mv, [.v 0], none⟩,
    ⟨.l 12, .p .mv, [.v 1], none⟩,
    ⟨.l 13, .p (.len true), [.l 12], none⟩,
    ⟨.l 14, .p (.slc 0 true false false), [.l 11, .l 13], none⟩,
    ⟨.v 4, .p .mv, [.l 14], none⟩,
    ⟨.v 5, .p .mv, [.k (.m (.b true))], none⟩])
  .ret)))⟩

/- strings.Trim -/
def c37 : F := ⟨2, [.t 4],
  (.seq
  (.reg [⟨.v 4, .p .mv, [.k (.m (.s []))], none⟩])
  (.seq
  (.seq
  (.reg [⟨.l 7, .p .mv, [.v 0], none⟩,
    ⟨.l 8, .p (.bin .eql), [.l 7, .k (.m (.s []))], none⟩,
    ⟨.l 9, .p .mv, [.l 8], none⟩,
    ⟨.l 10, .p .mv, [.v 1], some (.l 9, false)⟩,
    ⟨.l 11, .p (.bin .eql), [.l 10, .k (.m (.s []))], some (.l 9, false)⟩,
    ⟨.v 12, .p .pick, [.l 9, .k (.m (.b true)), .l 11], none⟩])
  (.ite (.v 12)
    (.seq
    (.reg [⟨.l 13, .p .mv, [.v 0], none⟩,
      ⟨.v 4, .p .mv, [.l 13], none⟩])
    .ret)
    .skip))
  (.seq
  (.seq
  (.reg [⟨.l 14, .p .mv, [.v 1], none⟩,
    ⟨.l 15, .p (.len true), [.l 14], none⟩,
    ⟨.l 16, .p (.bin .eql), [.l 15, .k (.m (.i .i64 1))], none⟩,
    ⟨.l 17, .p .mv, [.l 16], none⟩,
    ⟨.l 18, .p .mv, [.v 1], some (.l 17, true)⟩,
    ⟨.l 19, .p .ixs, [.l 18, .k (.m (.i .i64 0))], some (.l 17, true)⟩,
    ⟨.l 20, .p (.bin .lss), [.l 19, .k (.m (.i .u8 128))], some (.l 17, true)⟩,
    ⟨.v 21, .p .pick, [.l 17, .l 20, .k (.m (.b false))], none⟩])
  (.ite (.v 21)
    (.seq
    (.reg [⟨.l 22, .p .mv, [.v 0], none⟩,
      ⟨.l 23, .p .mv, [.v 1], none⟩,
      ⟨.l 24, .p .ixs, [.l 23, .k (.m (.i .i64 0))], none⟩,
      ⟨.l 25, .l (.cal 42), [.l 22, .l 24], none⟩,
      ⟨.l 26, .p .mv, [.v 1], none⟩,
      ⟨.l 27, .p .ixs, [.l 26, .k (.m (.i .i64 0))], none⟩,
      ⟨.l 28, .l (.cal 41), [.l 25, .l 27], none⟩,
      ⟨.v 4, .p .mv, [.l 28], none⟩])
    .ret)
    .skip))
  (.seq
  (.seq
  (.reg [⟨.l 30, .p .mv, [.v 1], none⟩,
    ⟨.l 31, .l (.cal 43), [.l 30], none⟩,
    ⟨.l 29, .p .mv, [.l 31], none⟩,
    ⟨.l 32, .p (.ext 0), [.l 29], none⟩,
    ⟨.l 33, .p (.ext 1), [.l 29], none⟩,
    ⟨.v 5, .l (.als 63 1 256 [.m (.b false), .m (.b false), .m (.b false), .m (.b false), .m (.b false), .m (.b false), .m (.b false), .m (.b false), .m (.b false), .m (.b false), .m (.b false), .m (.b false), .m (.b false), .m (.b false), .m (.b false), .m (.b false), .m (.b false), .m (.b false), .m (.b false), .m (.b false), .m (.b false), .m (.b false), .m (.b false), .m (.b false), .m (.b false), .m (.b false), .m (.b false), .m (.b false), .m (.b false), .m (.b false), .m (.b false), .m (.b false), .m (.b false), .m (.b false), .m (.b false), .m (.b false), .m (.b false), .m (.b false), .m (.b false), .m (.b false), .m (.b false), .m (.b false), .m (.b false), .m (.b false), .m (.b false), .m (.b false), .m (.b false), .m (.b false), .m (.b false), .m (.b false), .m (.b false), .m (.b false), .m (.b false), .m (.b false), .m (.b false), .m (.b false), .m (.b false), .m (.b false), .m (.b false), .m (.b false), .m (.b false), .m (.b false), .m (.b false), .m (.b false), .m (.b false), .m (.b false), .m (.b false), .m (.b false), .m (.b false), .m (.b false), .m (.b false), .m (.b false), .m (.b false), .m (.b false), .m (.b false), .m (.b false), .m (.b false), .m (.b false), .m (.b false), .m (.b false), .m (.b false), .m (.b false), .m (.b false), .m (.b false), .m (.b false), .m (.b false), .m (.b false), .m (.b false), .m (.b false), .m (.b false), .m (.b false), .m (.b false), .m (.b false), .m (.b false), .m (.b false), .m (.b false), .m (.b false), .m (.b false), .m (.b false), .m (.b false), .m (.b false), .m (.b false), .m (.b false), .m (.b false), .m (.b false), .m (.b false), .m (.b false), .m (.b false), .m (.b false), .m (.b false), .m (.b false), .m (.b false), .m (.b false), .m (.b false), .m (.b false), .m (.b false), .m (.b false), .m (.b false), .m (.b false), .m (.b false), .m (.b false), .m (.b false), .m (.b false), .m (.b false), .m (.b false), .m (.b false), .m (.b false), .m (.b false), .m (.b false), .m (.b false), .m (.b false), .m (.b false), .m (.b false), .m (.b false), .m (.b false), .m (.b false), .m (.b false), .m (.b false), .m (.b false), .m (.b false), .m (.b false), .m (.b false), .m (.b false), .m (.b false), .m (.b false), .m (.b false), .m (.b false), .m (.b false), .m (.b false), .m (.b false), .m (.b false), .m (.b false), .m (.b false), .m (.b false), .m (.b false), .m (.b false), .m (.b false), .m (.b false), .m (.b false), .m (.b false), .m (.b false), .m (.b false), .m (.b false), .m (.b false), .m (.b false), .m (.b false), .m (.b false), .m (.b false), .m (.b false), .m (.b false), .m (.b false), .m (.b false), .m (.b false), .m (.b false), .m (.b false), .m (.b false), .m (.b false), .m (.b false), .m (.b false), .m (.b false), .m (.b false), .m (.b false), .m (.b false), .m (.b false), .m (.b false), .m (.b false), .m (.b false), .m (.b false), .m (.b false), .m (.b false), .m (.b false), .m (.b false), .m (.b false), .m (.b false), .m (.b false), .m (.b false), .m (.b false), .m (.b false), .m (.b false), .m (.b false), .m (.b false), .m (.b false), .m (.b false), .m (.b false), .m (.b false), .m (.b false), .m (.b false), .m (.b false), .m (.b false), .m (.b false), .m (.b false), .m (.b false), .m (.b false), .m (.b false), .m (.b false), .m (.b false), .m (.b false), .m (.b false), .m (.b false), .m (.b false), .m (.b false), .m (.b false), .m (.b false), .m (.b false), .m (.b false), .m (.b false), .m (.b false), .m (.b false), .m (.b false), .m (.b false), .m (.b false), .m (.b false), .m (.b false), .m (.b false), .m (.b false), .m (.b false), .m (.b false), .m (.b false), .m (.b false), .m (.b false), .m (.b false), .m (.b false), .m (.b false), .m (.b false), .m (.b false), .m (.b false), .m (.b false), .m (.b false), .m (.b false), .m (.b false), .m (.b false), .m (.b false), .m (.b false), .m (.b false), .m (.b false), .m (.b false)]), [], none⟩,
    ⟨.no, .l (.st 256), [.v 5, .l 32], none⟩,
    ⟨.v 6, .p .mv, [.l 33], none⟩])
  (.seq
  (.reg [⟨.v 34, .p .mv, [.v 6], none⟩])
  (.ite (.v 34)
    (.seq
    (.reg [⟨.l 35, .p .mv, [.v 0], none⟩,
      ⟨.l 36, .l (.cal 45), [.l 35, .v 5], none⟩,
      ⟨.l 37, .l (.cal 44), [.l 36, .v 5], none⟩,
      ⟨.v 4, .p .mv, [.l 37], none⟩])
    .ret)
    .skip)))
  (.seq
  (.reg [⟨.l 38, .p .mv, [.v 0], none⟩,
    ⟨.l 39, .p .mv, [.v 1], none⟩,
    ⟨.l 40, .l (.cal 47), [.l 38, .l 39], none⟩,
    ⟨.l 41, .p .mv, [.v 1], none⟩,
    ⟨.l 42, .l (.cal 46), [.l 40, .l 41], none⟩,
    ⟨.v 4, .p .mv, [.l 42], none⟩])
  .ret)))))⟩

/- internal/stringslite.Cut -/
def c39 : F := ⟨2, [.t 4, .t 5, .t 6],
  (.seq
  (.reg [⟨.v 4, .p .mv, [.k (.m (.s []))], none⟩,
    ⟨.v 5, .p .mv, [.k (.m (.s []))], none⟩,
    ⟨.v 6, .p .mv, [.k (.m (.b false))], none⟩])
  (.seq
  (.seq
  (.reg [⟨.l 8, .p .mv, [.v 0], none⟩,
    ⟨.l 9, .p .mv, [.v 1], none⟩,
    ⟨.l 10, .l (.cal 50), [.l 8, .l 9], none⟩,
    ⟨.v 7, .p .mv, [.l 10], none⟩])
  (.seq
  (.reg [⟨.l 11, .p .mv, [.v 7], none⟩,
    ⟨.v 12, .p (.bin .geq), [.l 11, .k (.m (.i .i64 0))], none⟩])
  (.ite (.v 12)
    (.seq
    (.reg [⟨.l 13, .p .mv, [.v 0], none⟩,
      ⟨.l 14, .p .mv, [.v 7], none⟩,
      ⟨.l 15, .p (.slc 0 false true false), [.l 13, .l 14], none⟩,
      ⟨.l 16, .p .mv, [.v 0], none⟩,
      ⟨.l 17, .p .mv, [.v 7], none⟩,
      ⟨.l 18, .p .mv, [.v 1], none⟩,
      ⟨.l 19, .p (.len true), [.l 18], none⟩,
      ⟨.l 20, .p (.bin .add), [.l 17, .l 19], none⟩,
      ⟨.l 21, .p (.slc 0 true false false), [.l 16, .l 20], none⟩,
      ⟨.v 4, .p .mv, [.l 15], none⟩,
      ⟨.v 5, .p .mv, [.l 21], none⟩,
      ⟨.v 6, .p .mv, [.k (.m (.b true))], none⟩])
    .ret)
    .skip)))
  (.seq
  (.reg [⟨.l 22, .p .mv, [.v 0], none⟩,
    ⟨.v 4, .p .mv, [.l 22], none⟩,
    ⟨.v 5, .p .mv, [.k (.m (.s []))], none⟩,
    ⟨.v 6, .p .mv, [.k (.m (.b false))], none⟩])
  .ret)))⟩

/- internal/stringslite.HasPrefix -/
def c40 : F := ⟨2, [.t 4],
  (.seq
  (.reg [⟨.v 4, .p .mv, [.k (.m (.b false))], none⟩])
  (.seq
  (.reg [⟨.l 5, .p .mv, [.v 0], none⟩,
    ⟨.l 6, .p (.len true), [.l 5], none⟩,
    ⟨.l 7, .p .mv, [.v 1], none⟩,
    ⟨.l 8, .p (.len true), [.l 7], none⟩,
    ⟨.l 9, .p (.bin .geq), [.l 6, .l 8], none⟩,
    ⟨.l 10, .p .mv, [.l 9], none⟩,
    ⟨.l 11, .p .mv, [.v 0], some (.l 10, true)⟩,
    ⟨.l 12, .p .mv, [.v 1], some (.l 10, true)⟩,
    ⟨.l 13, .p (.len true), [.l 12], some (.l 10, true)⟩,
    ⟨.l 14, .p (.slc 0 false true false), [.l 11, .l 13], some (.l 10, true)⟩,
    ⟨.l 15, .p .mv, [.v 1], some (.l 10, true)⟩,
    ⟨.l 16, .p (.bin .eql), [.l 14, .l 15], some (.l 10, true)⟩,
    ⟨.l 17, .p .pick, [.l 10, .l 16, .k (.m (.b false))], none⟩,
    ⟨.v 4, .p .mv, [.l 17], none⟩])
  .ret))⟩

/- strings.trimLeftByte -/
def c41_B0 : C :=
  (.seq
  (.seq
  (.reg [⟨.l 5, .p .mv, [.v 0], none⟩,
    ⟨.l 6, .p (.len true), [.l 5], none⟩,
    ⟨.l 7, .p (.bin .gtr), [.l 6, .k (.m (.i .i64 0))], none⟩,
    ⟨.l 8, .p .mv, [.l 7], none⟩,
    ⟨.l 9, .p .mv, [.v 0], some (.l 8, true)⟩,
    ⟨.l 10, .p .ixs, [.l 9, .k (.m (.i .i64 0))], some (.l 8, true)⟩,
    ⟨.l 11, .p .mv, [.v 1], some (.l 8, true)⟩,
    ⟨.l 12, .p (.bin .eql), [.l 10, .l 11], some (.l 8, true)⟩,
    ⟨.v 13, .p .pick, [.l 8, .l 12, .k (.m (.b false))], none⟩])
  (.ite (.v 13)
    .skip
    (.ex 0)))
  (.blk 1
  (.reg [⟨.l 14, .p .mv, [.v 0], none⟩,
    ⟨.l 15, .p (.slc 0 true false false), [.l 14, .k (.m (.i .i64 1))], none⟩,
    ⟨.v 0, .p .mv, [.l 15], none⟩])))
def c41_L0 : C := .loop [4, 13] c41_B0
def c41 : F := ⟨2, [.t 4],
  (.seq
  (.reg [⟨.v 4, .p .mv, [.k (.m (.s []))], none⟩])
  (.seq
  (.blk 0
  c41_L0)
  (.seq
  (.reg [⟨.l 16, .p .mv, [.v 0], none⟩,
    ⟨.v 4, .p .mv, [.l 16], none⟩])
  .ret)))⟩

/- strings.trimRightByte -/
def c42_B0 : C :=
  (.seq
  (.seq
  (.reg [⟨.l 5, .p .mv, [.v 0], none⟩,
    ⟨.l 6, .p (.len true), [.l 5], none⟩,
    ⟨.l 7, .p (.bin .gtr), [.l 6, .k (.m (.i .i64 0))], none⟩,
    ⟨.l 8, .p .mv, [.l 7], none⟩,
    ⟨.l 9, .p .mv, [.v 0], some (.l 8, true)⟩,
    ⟨.l 10, .p .mv, [.v 0], some (.l 8, true)⟩,
    ⟨.l 11, .p (.len true), [.l 10], some (.l 8, true)⟩,
    ⟨.l 12, .p (.bin .sub), [.l 11, .k (.m (.i .i64 1))], some (.l 8, true)⟩,
    ⟨.l 13, .p .ixs, [.l 9, .l 12], some (.l 8, true)⟩,
    ⟨.l 14, .p .mv, [.v 1], some (.l 8, true)⟩,
    ⟨.l 15, .p (.bin .eql), [.l 13, .l 14], some (.l 8, true)⟩,
    ⟨.v 16, .p .pick, [.l 8, .l 15, .k (.m (.b false))], none⟩])
  (.ite (.v 16)
    .skip
    (.ex 0)))
  (.blk 1
  (.reg [⟨.l 17, .p .mv, [.v 0], none⟩,
    ⟨.l 18, .p .mv, [.v 0], none⟩,
    ⟨.l 19, .p (.len true), [.l 18], none⟩,
    ⟨.l 20, .p (.bin .sub), [.l 19, .k (.m (.i .i64 1))], none⟩,
    ⟨.l 21, .p (.slc 0 false true false), [.l 17, .l 20], none⟩,
    ⟨.v 0, .p .mv, [.l 21], none⟩])))
def c42_L0 : C := .loop [4, 16] c42_B0
def c42 : F := ⟨2, [.t 4],
  (.seq
  (.reg [⟨.v 4, .p .mv, [.k (.m (.s []))], none⟩])
  (.seq
  (.blk 0
  c42_L0)
  (.seq
  (.reg [⟨.l 22, .p .mv, [.v 0], none⟩,
    ⟨.v 4, .p .mv, [.l 22], none⟩])
  .ret)))⟩

/- strings.makeASCIISet -/
def c43_B0 : C :=
  (.seq
  (.seq
  (.reg [⟨.l 6, .p .mv, [.v 4], none⟩,
    ⟨.l 7, .p .mv, [.v 0], none⟩,
    ⟨.l 8, .p (.len true), [.l 7], none⟩,
    ⟨.v 9, .p (.bin .lss), [.l 6, .l 8], none⟩])
  (.ite (.v 9)
    .skip
    (.ex 0)))
  (.seq
  (.blk 1
  (.seq
  (.reg [⟨.l 12, .p .mv, [.v 0], none⟩,
    ⟨.l 13, .p .mv, [.v 4], none⟩,
    ⟨.l 14, .p .ixs, [.l 12, .l 13], none⟩,
    ⟨.v 5, .p .mv, [.l 14], none⟩])
  (.seq
  (.seq
  (.reg [⟨.l 15, .p .mv, [.v 5], none⟩,
    ⟨.v 16, .p (.bin .geq), [.l 15, .k (.m (.i .u8 128))], none⟩])
  (.ite (.v 16)
    (.seq
    (.reg [⟨.l 17, .r (.ld true 256), [.v 2], none⟩,
      ⟨.no, .l (.st 256), [.v 2, .l 17], none⟩,
      ⟨.v 3, .p .mv, [.k (.m (.b false))], none⟩])
    .ret)
    .skip))
  (.reg [⟨.l 18, .p .mv, [.v 5], none⟩,
    ⟨.l 19, .p (.ixaA 256 1), [.v 2, .l 18], none⟩,
    ⟨.no, .l (.st 1), [.l 19, .k (.m (.b true))], none⟩]))))
  (.reg [⟨.l 10, .p .mv, [.v 4], none⟩,
    ⟨.l 11, .p (.bin .add), [.l 10, .k (.m (.i .i64 1))], none⟩,
    ⟨.v 4, .p .mv, [.l 11], none⟩])))
def c43_L0 : C := .loop [3, 5, 9, 16] c43_B0
def c43 : F := ⟨1, [.c 2 256 true, .t 3],
  (.seq
  (.reg [⟨.v 2, .l (.alp 2 [.m (.b false), .m (.b false), .m (.b false), .m (.b false), .m (.b false), .m (.b false), .m (.b false), .m (.b false), .m (.b false), .m (.b false), .m (.b false), .m (.b false), .m (.b false), .m (.b false), .m (.b false), .m (.b false), .m (.b false), .m (.b false), .m (.b false), .m (.b false), .m (.b false), .m (.b false), .m (.b false), .m (.b false), .m (.b false), .m (.b false), .m (.b false), .m (.b false), .m (.b false), .m (.b false), .m (.b false), .m (.b false), .m (.b false), .m (.b false), .m (.b false), .m (.b false), .m (.b false), .m (.b false), .m (.b false), .m (.b false), .m (.b false), .m (.b false), .m (.b false), .m (.b false), .m (.b false), .m (.b false), .m (.b false), .m (.b false), .m (.b false), .m (.b false), .m (.b false), .m (.b false), .m (.b false), .m (.b false), .m (.b false), .m (.b false), .m (.b false), .m (.b false), .m (.b false), .m (.b false), .m (.b false), .m (.b false), .m (.b false), .m (.b false), .m (.b false), .m (.b false), .m (.b false), .m (.b false), .m (.b false), .m (.b false), .m (.b false), .m (.b false), .m (.b false), .m (.b false), .m (.b false), .m (.b false), .m (.b false), .m (.b false), .m (.b false), .m (.b false), .m (.b false), .m (.b false), .m (.b false), .m (.b false), .m (.b false), .m (.b false), .m (.b false), .m (.b false), .m (.b false), .m (.b false), .m (.b false), .m (.b false), .m (.b false), .m (.b false), .m (.b false), .m (.b false), .m (.b false), .m (.b false), .m (.b false), .m (.b false), .m (.b false), .m (.b false), .m (.b false), .m (.b false), .m (.b false), .m (.b false), .m (.b false), .m (.b false), .m (.b false), .m (.b false), .m (.b false), .m (.b false), .m (.b false), .m (.b false), .m (.b false), .m (.b false), .m (.b false), .m (.b false), .m (.b false), .m (.b false), .m (.b false), .m (.b false), .m (.b false), .m (.b false), .m (.b false), .m (.b false), .m (.b false), .m (.b false), .m (.b false), .m (.b false), .m (.b false), .m (.b false), .m (.b false), .m (.b false), .m (.b false), .m (.b false), .m (.b false), .m (.b false), .m (.b false), .m (.b false), .m (.b false), .m (.b false), .m (.b false), .m (.b false), .m (.b false), .m (.b false), .m (.b false), .m (.b false), .m (.b false), .m (.b false), .m (.b false), .m (.b false), .m (.b false), .m (.b false), .m (.b false), .m (.b false), .m (.b false), .m (.b false), .m (.b false), .m (.b false), .m (.b false), .m (.b false), .m (.b false), .m (.b false), .m (.b false), .m (.b false), .m (.b false), .m (.b false), .m (.b false), .m (.b false), .m (.b false), .m (.b false), .m (.b false), .m (.b false), .m (.b false), .m (.b false), .m (.b false), .m (.b false), .m (.b false), .m (.b false), .m (.b false), .m (.b false), .m (.b false), .m (.b false), .m (.b false), .m (.b false), .m (.b false), .m (.b false), .m (.b false), .m (.b false), .m (.b false), .m (.b false), .m (.b false), .m (.b false), .m (.b false), .m (.b false), .m (.b false), .m (.b false), .m (.b false), .m (.b false), .m (.b false), .m (.b false), .m (.b false), .m (.b false), .m (.b false), .m (.b false), .m (.b false), .m (.b false), .m (.b false), .m (.b false), .m (.b false), .m (.b false), .m (.b false), .m (.b false), .m (.b false), .m (.b false), .m (.b false), .m (.b false), .m (.b false), .m (.b false), .m (.b false), .m (.b false), .m (.b false), .m (.b false), .m (.b false), .m (.b false), .m (.b false), .m (.b false), .m (.b false), .m (.b false), .m (.b false), .m (.b false), .m (.b false), .m (.b false), .m (.b false), .m (.b false), .m (.b false), .m (.b false), .m (.b false), .m (.b false), .m (.b false), .m (.b false), .m (.b false), .m (.b false), .m (.b false), .m (.b false), .m (.b false), .m (.b false), .m (.b false), .m (.b false), .m (.b false), .m (.b false), .m (.b false), .m (.b false), .m (.b false), .m (.b false)]), [], none⟩,
    ⟨.v 3, .p .mv, [.k (.m (.b false))], none⟩])
  (.seq
  (.seq
  (.reg [⟨.v 4, .p .mv, [.k (.m (.i .i64 0))], none⟩])
  (.blk 0
  c43_L0))
  (.seq
  (.reg [⟨.l 20, .r (.ld true 256), [.v 2], none⟩,
    ⟨.no, .l (.st 256), [.v 2, .l 20], none⟩,
    ⟨.v 3, .p .mv, [.k (.m (.b true))], none⟩])
  .ret)))⟩

/- strings.trimLeftASCII -/
def c44_B0 : C :=
  (.seq
  (.seq
  (.reg [⟨.l 5, .p .mv, [.v 0], none⟩,
    ⟨.l 6, .p (.len true), [.l 5], none⟩,
    ⟨.v 7, .p (.bin .gtr), [.l 6, .k (.m (.i .i64 0))], none⟩])
  (.ite (.v 7)
    .skip
    (.ex 0)))
  (.blk 1
  (.seq
  (.seq
  (.reg [⟨.l 8, .p .mv, [.v 1], none⟩,
    ⟨.l 9, .p .mv, [.v 0], none⟩,
    ⟨.l 10, .p .ixs, [.l 9, .k (.m (.i .i64 0))], none⟩,
    ⟨.l 11, .l (.cal 51), [.l 8, .l 10], none⟩,
    ⟨.v 12, .p (.un .not), [.l 11], none⟩])
  (.ite (.v 12)
    (.ex 0)
    .skip))
  (.reg [⟨.l 13, .p .mv, [.v 0], none⟩,
    ⟨.l 14, .p (.slc 0 true false false), [.l 13, .k (.m (.i .i64 1))], none⟩,
    ⟨.v 0, .p .mv, [.l 14], none⟩]))))
def c44_L0 : C := .loop [4, 7, 12] c44_B0
def c44 : F := ⟨2, [.t 4],
  (.seq
  (.reg [⟨.v 4, .p .mv, [.k (.m (.s []))], none⟩])
  (.seq
  (.blk 0
  c44_L0)
  (.seq
  (.reg [⟨.l 15, .p .mv, [.v 0], none⟩,
    ⟨.v 4, .p .mv, [.l 15], none⟩])
  .ret)))⟩

/- strings.trimRightASCII -/
def c45_B0 : C :=
  (.seq
  (.seq
  (.reg [⟨.l 5, .p .mv, [.v 0], none⟩,
    ⟨.l 6, .p (.len true), [.l 5], none⟩,
    ⟨.v 7, .p (.bin .gtr), [.l 6, .k (.m (.i .i64 0))], none⟩])
  (.ite (.v 7)
    .skip
    (.ex 0)))
  (.blk 1
  (.seq
  (.seq
  (.reg [⟨.l 8, .p .mv, [.v 1], none⟩,
    ⟨.l 9, .p .mv, [.v 0], none⟩,
    ⟨.l 10, .p .mv, [.v 0], none⟩,
    ⟨.l 11, .p (.len true), [.l 10], none⟩,
    ⟨.l 12, .p (.bin .sub), [.l 11, .k (.m (.i .i64 1))], none⟩,
    ⟨.l 13, .p .ixs, [.l 9, .l 12], none⟩,
    ⟨.l 14, .l (.cal 51), [.l 8, .l 13], none⟩,
    ⟨.v 15, .p (.un .not), [.l 14], none⟩])
  (.ite (.v 15)
    (.ex 0)
    .skip))
  (.reg [⟨.l 16, .p .mv, [.v 0], none⟩,
    ⟨.l 17, .p .mv, [.v 0], none⟩,
    ⟨.l 18, .p (.len true), [.l 17], none⟩,
    ⟨.l 19, .p (.bin .sub), [.l 18, .k (.m (.i .i64 1))], none⟩,
    ⟨.l 20, .p (.slc 0 false true false), [.l 16, .l 19], none⟩,
    ⟨.v 0, .p .mv, [.l 20], none⟩]))))
def c45_L0 : C := .loop [4, 7, 15] c45_B0
def c45 : F := ⟨2, [.t 4],
  (.seq
  (.reg [⟨.v 4, .p .mv, [.k (.m (.s []))], none⟩])
  (.seq
  (.blk 0
  c45_L0)
  (.seq
  (.reg [⟨.l 21, .p .mv, [.v 0], none⟩,
    ⟨.v 4, .p .mv, [.l 21], none⟩])
  .ret)))⟩

/- strings.trimLeftUnicode -/
def c46_B0 : C :=
  (.seq
  (.seq
  (.reg [⟨.l 7, .p .mv, [.v 0], none⟩,
    ⟨.l 8, .p (.len true), [.l 7], none⟩,
    ⟨.v 9, .p (.bin .gtr), [.l 8, .k (.m (.i .i64 0))], none⟩])
  (.ite (.v 9)
    .skip
    (.ex 0)))
  (.blk 1
  (.seq
  (.reg [⟨.l 11, .p .mv, [.v 0], none⟩,
    ⟨.l 12, .l (.cal 52), [.l 11], none⟩,
    ⟨.l 10, .p .mv, [.l 12], none⟩,
    ⟨.l 13, .p (.ext 0), [.l 10], none⟩,
    ⟨.l 14, .p (.ext 1), [.l 10], none⟩,
    ⟨.v 5, .p .mv, [.l 13], none⟩,
    ⟨.v 6, .p .mv, [.l 14], none⟩])
  (.seq
  (.seq
  (.reg [⟨.l 15, .p .mv, [.v 1], none⟩,
    ⟨.l 16, .p .mv, [.v 5], none⟩,
    ⟨.l 17, .l (.cal 53), [.l 15, .l 16], none⟩,
    ⟨.v 18, .p (.un .not), [.l 17], none⟩])
  (.ite (.v 18)
    (.ex 0)
    .skip))
  (.reg [⟨.l 19, .p .mv, [.v 0], none⟩,
    ⟨.l 20, .p .mv, [.v 6], none⟩,
    ⟨.l 21, .p (.slc 0 true false false), [.l 19, .l 20], none⟩,
    ⟨.v 0, .p .mv, [.l 21], none⟩])))))
def c46_L0 : C := .loop [4, 5, 6, 9, 18] c46_B0
def c46 : F := ⟨2, [.t 4],
  (.seq
  (.reg [⟨.v 4, .p .mv, [.k (.m (.s []))], none⟩])
  (.seq
  (.blk 0
  c46_L0)
  (.seq
  (.reg [⟨.l 22, .p .mv, [.v 0], none⟩,
    ⟨.v 4, .p .mv, [.l 22], none⟩])
  .ret)))⟩

/- strings.trimRightUnicode -/
def c47_B0 : C :=
  (.seq
  (.seq
  (.reg [⟨.l 7, .p .mv, [.v 0], none⟩,
    ⟨.l 8, .p (.len true), [.l 7], none⟩,
    ⟨.v 9, .p (.bin .gtr), [.l 8, .k (.m (.i .i64 0))], none⟩])
  (.ite (.v 9)
    .skip
    (.ex 0)))
  (.blk 1
  (.seq
  (.reg [⟨.l 10, .p .mv, [.v 0], none⟩,
    ⟨.l 11, .p .mv, [.v 0], none⟩,
    ⟨.l 12, .p (.len true), [.l 11], none⟩,
    ⟨.l 13, .p (.bin .sub), [.l 12, .k (.m (.i .i64 1))], none⟩,
    ⟨.l 14, .p .ixs, [.l 10, .l 13], none⟩,
    ⟨.l 15, .p (.cv .i32), [.l 14], none⟩,
    ⟨.v 5, .p .mv, [.l 15], none⟩,
    ⟨.v 6, .p .mv, [.k (.m (.i .i64 1))], none⟩])
  (.seq
  (.seq
  (.reg [⟨.l 16, .p .mv, [.v 5], none⟩,
    ⟨.v 17, .p (.bin .geq), [.l 16, .k (.m (.i .i32 128))], none⟩])
  (.ite (.v 17)
    (.reg [⟨.l 19, .p .mv, [.v 0], none⟩,
      ⟨.l 20, .l (.cal 54), [.l 19], none⟩,
      ⟨.l 18, .p .mv, [.l 20], none⟩,
      ⟨.l 21, .p (.ext 0), [.l 18], none⟩,
      ⟨.l 22, .p (.ext 1), [.l 18], none⟩,
      ⟨.v 5, .p .mv, [.l 21], none⟩,
      ⟨.v 6, .p .mv, [.l 22], none⟩])
    .skip))
  (.seq
  (.seq
  (.reg [⟨.l 23, .p .mv, [.v 1], none⟩,
    ⟨.l 24, .p .mv, [.v 5], none⟩,
    ⟨.l 25, .l (.cal 53), [.l 23, .l 24], none⟩,
    ⟨.v 26, .p (.un .not), [.l 25], none⟩])
  (.ite (.v 26)
    (.ex 0)
    .skip))
  (.reg [⟨.l 27, .p .mv, [.v 0], none⟩,
    ⟨.l 28, .p .mv, [.v 0], none⟩,
    ⟨.l 29, .p (.len true), [.l 28], none⟩,
    ⟨.l 30, .p .mv, [.v 6], none⟩,
    ⟨.l 31, .p (.bin .sub), [.l 29, .l 30], none⟩,
    ⟨.l 32, .p (.slc 0 false true false), [.l 27, .l 31], none⟩,
    ⟨.v 0, .p .mv, [.l 32], none⟩]))))))
def c47_L0 : C := .loop [4, 5, 6, 9, 17, 26] c47_B0
def c47 : F := ⟨2, [.t 4],
  (.seq
  (.reg [⟨.v 4, .p .mv, [.k (.m (.s []))], none⟩])
  (.seq
  (.blk 0
  c47_L0)
  (.seq
  (.reg [⟨.l 33, .p .mv, [.v 0], none⟩,
    ⟨.v 4, .p .mv, [.l 33], none⟩])
  .ret)))⟩

/- internal/stringslite.Index -/
def c50_B0 : C :=
  (.seq
  (.seq
  (.reg [⟨.l 57, .p .mv, [.v 8], none⟩,
    ⟨.l 58, .p .mv, [.v 9], none⟩,
    ⟨.v 59, .p (.bin .lss), [.l 57, .l 58], none⟩])
  (.ite (.v 59)
    .skip
    (.ex 1)))
  (.blk 2
  (.seq
  (.seq
  (.reg [⟨.l 60, .p .mv, [.v 0], none⟩,
    ⟨.l 61, .p .mv, [.v 8], none⟩,
    ⟨.l 62, .p .ixs, [.l 60, .l 61], none⟩,
    ⟨.l 63, .p .mv, [.v 6], none⟩,
    ⟨.v 64, .p (.bin .neq), [.l 62, .l 63], none⟩])
  (.ite (.v 64)
    (.seq
    (.reg [⟨.l 65, .p .mv, [.v 0], none⟩,
      ⟨.l 66, .p .mv, [.v 8], none⟩,
      ⟨.l 67, .p (.bin .add), [.l 66, .k (.m (.i .i64 1))], none⟩,
      ⟨.l 68, .p .mv, [.v 9], none⟩,
      ⟨.l 69, .p (.slc 0 true true false), [.l 65, .l 67, .l 68], none⟩,
      ⟨.l 70, .p .mv, [.v 6], none⟩,
      ⟨.l 71, .l (.cal 60), [.l 69, .l 70], none⟩,
      ⟨.v 11, .p .mv, [.l 71], none⟩])
    (.seq
    (.seq
    (.reg [⟨.l 72, .p .mv, [.v 11], none⟩,
      ⟨.v 73, .p (.bin .lss), [.l 72, .k (.m (.i .i64 0))], none⟩])
    (.ite (.v 73)
      (.seq
      (.reg [⟨.v 4, .p .mv, [.k (.m (.i .i64 (-1)))], none⟩])
      .ret)
      .skip))
    (.reg [⟨.l 74, .p .mv, [.v 8], none⟩,
      ⟨.l 75, .p .mv, [.v 11], none⟩,
      ⟨.l 76, .p (.bin .add), [.l 75, .k (.m (.i .i64 1))], none⟩,
      ⟨.l 77, .p (.bin .add), [.l 74, .l 76], none⟩,
      ⟨.v 8, .p .mv, [.l 77], none⟩])))
    .skip))
  (.seq
  (.seq
  (.reg [⟨.l 78, .p .mv, [.v 0], none⟩,
    ⟨.l 79, .p .mv, [.v 8], none⟩,
    ⟨.l 80, .p (.bin .add), [.l 79, .k (.m (.i .i64 1))], none⟩,
    ⟨.l 81, .p .ixs, [.l 78, .l 80], none⟩,
    ⟨.l 82, .p .mv, [.v 7], none⟩,
    ⟨.l 83, .p (.bin .eql), [.l 81, .l 82], none⟩,
    ⟨.l 84, .p .mv, [.l 83], none⟩,
    ⟨.l 85, .p .mv, [.v 0], some (.l 84, true)⟩,
    ⟨.l 86, .p .mv, [.v 8], some (.l 84, true)⟩,
    ⟨.l 87, .p .mv, [.v 8], some (.l 84, true)⟩,
    ⟨.l 88, .p .mv, [.v 5], some (.l 84, true)⟩,
    ⟨.l 89, .p (.bin .add), [.l 87, .l 88], some (.l 84, true)⟩,
    ⟨.l 90, .p (.slc 0 true true false), [.l 85, .l 86, .l 89], some (.l 84, true)⟩,
    ⟨.l 91, .p .mv, [.v 1], some (.l 84, true)⟩,
    ⟨.l 92, .p (.bin .eql), [.l 90, .l 91], some (.l 84, true)⟩,
    ⟨.v 93, .p .pick, [.l 84, .l 92, .k (.m (.b false))], none⟩])
  (.ite (.v 93)
    (.seq
    (.reg [⟨.l 94, .p .mv, [.v 8], none⟩,
      ⟨.v 4, .p .mv, [.l 94], none⟩])
    .ret)
    .skip))
  (.seq
  (.reg [⟨.l 95, .p .mv, [.v 8], none⟩,
    ⟨.l 96, .p (.bin .add), [.l 95, .k (.m (.i .i64 1))], none⟩,
    ⟨.v 8, .p .mv, [.l 96], none⟩])
  (.seq
  (.reg [⟨.l 97, .p .mv, [.v 10], none⟩,
    ⟨.l 98, .p (.bin .add), [.l 97, .k (.m (.i .i64 1))], none⟩,
    ⟨.v 10, .p .mv, [.l 98], none⟩])
  (.seq
  (.reg [⟨.l 99, .p .mv, [.v 5], none⟩,
    ⟨.l 100, .p .mv, [], none⟩,
    ⟨.l 101, .p (.bin .leq), [.l 99, .l 100], none⟩,
    ⟨.l 102, .p .mv, [.l 101], none⟩,
    ⟨.l 103, .p .mv, [.v 10], some (.l 102, true)⟩,
    ⟨.l 104, .p .mv, [.v 8], some (.l 102, true)⟩,
    ⟨.l 105, .l (.cal 62), [.l 104], some (.l 102, true)⟩,
    ⟨.l 106, .p (.bin .gtr), [.l 103, .l 105], some (.l 102, true)⟩,
    ⟨.v 107, .p .pick, [.l 102, .l 106, .k (.m (.b false))], none⟩])
  (.ite (.v 107)
    (.seq
    (.reg [⟨.l 108, .p .mv, [.v 0], none⟩,
      ⟨.l 109, .p .mv, [.v 8], none⟩,
      ⟨.l 110, .p (.slc 0 true false false), [.l 108, .l 109], none⟩,
      ⟨.l 111, .p .mv, [.v 1], none⟩,
      ⟨.l 112, .l (.cal 61), [.l 110, .l 111], none⟩,
      ⟨.v 12, .p .mv, [.l 112], none⟩])
    (.seq
    (.seq
    (.reg [⟨.l 113, .p .mv, [.v 12], none⟩,
      ⟨.v 114, .p (.bin .geq), [.l 113, .k (.m (.i .i64 0))], none⟩])
    (.ite (.v 114)
      (.seq
      (.reg [⟨.l 115, .p .mv, [.v 12], none⟩,
        ⟨.l 116, .p .mv, [.v 8], none⟩,
        ⟨.l 117, .p (.bin .add), [.l 115, .l 116], none⟩,
        ⟨.v 4, .p .mv, [.l 117], none⟩])
      .ret)
      .skip))
    (.seq
    (.reg [⟨.v 4, .p .mv, [.k (.m (.i .i64 (-1)))], none⟩])
    .ret)))
    (.seq
    (.reg [⟨.l 118, .p .mv, [.v 5], none⟩,
      ⟨.l 119, .p .mv, [], none⟩,
      ⟨.l 120, .p (.bin .gtr), [.l 118, .l 119], none⟩,
      ⟨.l 121, .p .mv, [.l 120], none⟩,
      ⟨.l 122, .p .mv, [.v 10], some (.l 121, true)⟩,
      ⟨.l 123, .p .mv, [.v 8], some (.l 121, true)⟩,
      ⟨.l 124, .p (.bin .shr), [.l 123, .k (.m (.i .u64 4))], some (.l 121, true)⟩,
      ⟨.l 125, .p (.bin .add), [.k (.m (.i .i64 4)), .l 124], some (.l 121, true)⟩,
      ⟨.l 126, .p (.bin .geq), [.l 122, .l 125], some (.l 121, true)⟩,
      ⟨.l 127, .p .pick, [.l 121, .l 126, .k (.m (.b false))], none⟩,
      ⟨.l 128, .p .mv, [.l 127], none⟩,
      ⟨.l 129, .p .mv, [.v 8], some (.l 128, true)⟩,
      ⟨.l 130, .p .mv, [.v 9], some (.l 128, true)⟩,
      ⟨.l 131, .p (.bin .lss), [.l 129, .l 130], some (.l 128, true)⟩,
      ⟨.v 132, .p .pick, [.l 128, .l 131, .k (.m (.b false))], none⟩])
    (.ite (.v 132)
      (.seq
      (.reg [⟨.l 133, .p .mv, [.v 0], none⟩,
        ⟨.l 134, .p .mv, [.v 8], none⟩,
        ⟨.l 135, .p (.slc 0 true false false), [.l 133, .l 134], none⟩,
        ⟨.l 136, .p .mv, [.v 1], none⟩,
        ⟨.l 137, .l (.cal 63), [.l 135, .l 136], none⟩,
        ⟨.v 13, .p .mv, [.l 137], none⟩])
      (.seq
      (.seq
      (.reg [⟨.l 138, .p .mv, [.v 13], none⟩,
        ⟨.v 139, .p (.bin .lss), [.l 138, .k (.m (.i .i64 0))], none⟩])
      (.ite (.v 139)
        (.seq
        (.reg [⟨.v 4, .p .mv, [.k (.m (.i .i64 (-1)))], none⟩])
        .ret)
        .skip))
      (.seq
      (.reg [⟨.l 140, .p .mv, [.v 8], none⟩,
        ⟨.l 141, .p .mv, [.v 13], none⟩,
        ⟨.l 142, .p (.bin .add), [.l 140, .l 141], none⟩,
        ⟨.v 4, .p .mv, [.l 142], none⟩])
      .ret)))
      .skip))))))))))
def c50_L0 : C := .loop [4, 11, 16, 24, 31, 36, 59, 64, 73, 93, 107, 132] c50_B0
def c50 : F := ⟨2, [.t 4],
  (.seq
  (.reg [⟨.v 4, .p .mv, [.k (.m (.i .i64 0))], none⟩])
  (.seq
  (.reg [⟨.l 14, .p .mv, [.v 1], none⟩,
    ⟨.l 15, .p (.len true), [.l 14], none⟩,
    ⟨.v 5, .p .mv, [.l 15], none⟩])
  (.seq
  (.blk 0
  (.seq
  (.reg [⟨.l 17, .p .mv, [.v 5], none⟩,
    ⟨.l 18, .p (.bin .eql), [.l 17, .k (.m (.i .i64 0))], none⟩,
    ⟨.l 19, .p .mv, [.l 18], none⟩,
    ⟨.l 20, .p .mv, [.v 1], some (.l 19, false)⟩,
    ⟨.l 21, .p .mv, [.v 0], some (.l 19, false)⟩,
    ⟨.l 22, .p (.bin .eql), [.l 20, .l 21], some (.l 19, false)⟩,
    ⟨.l 23, .p .pick, [.l 19, .k (.m (.b true)), .l 22], none⟩,
    ⟨.v 16, .p .mv, [.l 23], none⟩])
  (.ite (.v 16)
    (.seq
    (.reg [⟨.v 4, .p .mv, [.k (.m (.i .i64 0))], none⟩])
    .ret)
    (.seq
    (.reg [⟨.l 25, .p .mv, [.v 5], none⟩,
      ⟨.l 26, .p (.bin .eql), [.l 25, .k (.m (.i .i64 1))], none⟩,
      ⟨.v 24, .p .mv, [.l 26], none⟩])
    (.ite (.v 24)
      (.seq
      (.reg [⟨.l 27, .p .mv, [.v 0], none⟩,
        ⟨.l 28, .p .mv, [.v 1], none⟩,
        ⟨.l 29, .p .ixs, [.l 28, .k (.m (.i .i64 0))], none⟩,
        ⟨.l 30, .l (.cal 60), [.l 27, .l 29], none⟩,
        ⟨.v 4, .p .mv, [.l 30], none⟩])
      .ret)
      (.seq
      (.reg [⟨.l 32, .p .mv, [.v 5], none⟩,
        ⟨.l 33, .p .mv, [.v 0], none⟩,
        ⟨.l 34, .p (.len true), [.l 33], none⟩,
        ⟨.l 35, .p (.bin .geq), [.l 32, .l 34], none⟩,
        ⟨.v 31, .p .mv, [.l 35], none⟩])
      (.ite (.v 31)
        (.seq
        (.reg [⟨.v 4, .p .mv, [.k (.m (.i .i64 (-1)))], none⟩])
        .ret)
        (.seq
        (.reg [⟨.l 37, .p .mv, [.v 5], none⟩,
          ⟨.l 38, .p .mv, [], none⟩,
          ⟨.l 39, .p (.bin .leq), [.l 37, .l 38], none⟩,
          ⟨.l 40, .p .mv, [.l 39], none⟩,
          ⟨.l 41, .p .mv, [.v 0], some (.l 40, true)⟩,
          ⟨.l 42, .p (.len true), [.l 41], some (.l 40, true)⟩,
          ⟨.l 43, .p (.bin .leq), [.l 42, .k (.m (.i .i64 64))], some (.l 40, true)⟩,
          ⟨.l 44, .p .pick, [.l 40, .l 43, .k (.m (.b false))], none⟩,
          ⟨.v 36, .p .mv, [.l 44], none⟩])
        (.ite (.v 36)
          (.seq
          (.reg [⟨.l 45, .p .mv, [.v 0], none⟩,
            ⟨.l 46, .p .mv, [.v 1], none⟩,
            ⟨.l 47, .l (.cal 61), [.l 45, .l 46], none⟩,
            ⟨.v 4, .p .mv, [.l 47], none⟩])
          .ret)
          .skip)))))))))
  (.seq
  (.reg [⟨.l 48, .p .mv, [.v 1], none⟩,
    ⟨.l 49, .p .ixs, [.l 48, .k (.m (.i .i64 0))], none⟩,
    ⟨.v 6, .p .mv, [.l 49], none⟩])
  (.seq
  (.reg [⟨.l 50, .p .mv, [.v 1], none⟩,
    ⟨.l 51, .p .ixs, [.l 50, .k (.m (.i .i64 1))], none⟩,
    ⟨.v 7, .p .mv, [.l 51], none⟩])
  (.seq
  (.reg [⟨.v 8, .p .mv, [.k (.m (.i .i64 0))], none⟩])
  (.seq
  (.reg [⟨.l 52, .p .mv, [.v 0], none⟩,
    ⟨.l 53, .p (.len true), [.l 52], none⟩,
    ⟨.l 54, .p .mv, [.v 5], none⟩,
    ⟨.l 55, .p (.bin .sub), [.l 53, .l 54], none⟩,
    ⟨.l 56, .p (.bin .add), [.l 55, .k (.m (.i .i64 1))], none⟩,
    ⟨.v 9, .p .mv, [.l 56], none⟩])
  (.seq
  (.reg [⟨.v 10, .p .mv, [.k (.m (.i .i64 0))], none⟩])
  (.seq
  (.blk 1
  c50_L0)
  (.seq
  (.reg [⟨.v 4, .p .mv, [.k (.m (.i .i64 (-1)))], none⟩])
  .ret))))))))))⟩

/- (*strings.asciiSet).contains -/
def c51 : F := ⟨2, [.t 4],
  (.seq
  (.reg [⟨.v 4, .p .mv, [.k (.m (.b false))], none⟩])
  (.seq
  (.reg [⟨.l 5, .p .mv, [.v 0], none⟩,
    ⟨.l 6, .p .mv, [.v 1], none⟩,
    ⟨.l 7, .p .nck, [.l 5], none⟩,
    ⟨.l 8, .p (.ixaA 256 1), [.l 7, .l 6], none⟩,
    ⟨.l 9, .r (.ld false 1), [.l 8], none⟩,
    ⟨.v 4, .p .mv, [.l 9], none⟩])
  .ret))⟩

/- strings.ContainsRune -/
def c53 : F := ⟨2, [.t 4],
  (.seq
  (.reg [⟨.v 4, .p .mv, [.k (.m (.b false))], none⟩])
  (.seq
  (.reg [⟨.l 5, .p .mv, [.v 0], none⟩,
    ⟨.l 6, .p .mv, [.v 1], none⟩,
    ⟨.l 7, .l (.cal 65), [.l 5, .l 6], none⟩,
    ⟨.l 8, .p (.bin .geq), [.l 7, .k (.m (.i .i64 0))], none⟩,
    ⟨.v 4, .p .mv, [.l 8], none⟩])
  .ret))⟩

/- strings.IndexRune -/
def c65_B0 : C :=
  (.seq
  (.reg [⟨.v 176, .p .mv, [], none⟩,
    ⟨.v 177, .p (.ext 0), [.v 176], none⟩])
  (.seq
  (.ite (.v 177)
    .skip
    (.ex 9))
  (.blk 10
  (.seq
  (.reg [⟨.l 178, .p (.ext 1), [.v 176], none⟩,
    ⟨.l 179, .p (.ext 2), [.v 176], none⟩,
    ⟨.v 5, .p .mv, [.l 178], none⟩,
    ⟨.v 6, .p .mv, [.l 179], none⟩])
  (.seq
  (.reg [⟨.l 180, .p .mv, [.v 6], none⟩,
    ⟨.v 181, .p (.bin .eql), [.l 180, .k (.m (.i .i32 65533))], none⟩])
  (.ite (.v 181)
    (.seq
    (.reg [⟨.l 182, .p .mv, [.v 5], none⟩,
      ⟨.v 4, .p .mv, [.l 182], none⟩])
    .ret)
    .skip))))))
def c65_L0 : C := .loop [0, 1, 4, 5, 6, 160, 171, 176, 177, 181] c65_B0
def c65_B1 : C :=
  (.seq
  (.seq
  (.reg [⟨.l 48, .p .mv, [.v 12], none⟩,
    ⟨.l 49, .p .mv, [.v 7], none⟩,
    ⟨.l 50, .p (.len true), [.l 49], none⟩,
    ⟨.v 51, .p (.bin .lss), [.l 48, .l 50], none⟩])
  (.ite (.v 51)
    .skip
    (.ex 3)))
  (.seq
  (.blk 4
  (.seq
  (.reg [⟨.l 54, .p .mv, [.v 0], none⟩,
    ⟨.l 55, .p .mv, [.v 9], none⟩,
    ⟨.l 56, .p .mv, [.v 12], none⟩,
    ⟨.l 57, .p (.bin .sub), [.l 55, .l 56], none⟩,
    ⟨.l 58, .p .ixs, [.l 54, .l 57], none⟩,
    ⟨.l 59, .p .mv, [.v 7], none⟩,
    ⟨.l 60, .p .mv, [.v 8], none⟩,
    ⟨.l 61, .p .mv, [.v 12], none⟩,
    ⟨.l 62, .p (.bin .sub), [.l 60, .l 61], none⟩,
    ⟨.l 63, .p .ixs, [.l 59, .l 62], none⟩,
    ⟨.v 64, .p (.bin .neq), [.l 58, .l 63], none⟩])
  (.ite (.v 64)
    (.reg [⟨.no, .p .mv, [], none⟩])
    .skip)))
  (.reg [⟨.l 52, .p .mv, [.v 12], none⟩,
    ⟨.l 53, .p (.bin .add), [.l 52, .k (.m (.i .i64 1))], none⟩,
    ⟨.v 12, .p .mv, [.l 53], none⟩])))
def c65_L1 : C := .loop [11, 26, 33, 43, 51, 64] c65_B1
def c65_B2 : C :=
  (.seq
  (.seq
  (.reg [⟨.l 23, .p .mv, [.v 9], none⟩,
    ⟨.l 24, .p .mv, [.v 0], none⟩,
    ⟨.l 25, .p (.len true), [.l 24], none⟩,
    ⟨.v 26, .p (.bin .lss), [.l 23, .l 25], none⟩])
  (.ite (.v 26)
    .skip
    (.ex 1)))
  (.blk 2
  (.seq
  (.seq
  (.reg [⟨.l 27, .p .mv, [.v 0], none⟩,
    ⟨.l 28, .p .mv, [.v 9], none⟩,
    ⟨.l 29, .p .ixs, [.l 27, .l 28], none⟩,
    ⟨.l 30, .p .mv, [.v 7], none⟩,
    ⟨.l 31, .p .mv, [.v 8], none⟩,
    ⟨.l 32, .p .ixs, [.l 30, .l 31], none⟩,
    ⟨.v 33, .p (.bin .neq), [.l 29, .l 32], none⟩])
  (.ite (.v 33)
    (.seq
    (.reg [⟨.l 34, .p .mv, [.v 0], none⟩,
      ⟨.l 35, .p .mv, [.v 9], none⟩,
      ⟨.l 36, .p (.bin .add), [.l 35, .k (.m (.i .i64 1))], none⟩,
      ⟨.l 37, .p (.slc 0 true false false), [.l 34, .l 36], none⟩,
      ⟨.l 38, .p .mv, [.v 7], none⟩,
      ⟨.l 39, .p .mv, [.v 8], none⟩,
      ⟨.l 40, .p .ixs, [.l 38, .l 39], none⟩,
      ⟨.l 41, .l (.cal 73), [.l 37, .l 40], none⟩,
      ⟨.v 11, .p .mv, [.l 41], none⟩])
    (.seq
    (.seq
    (.reg [⟨.l 42, .p .mv, [.v 11], none⟩,
      ⟨.v 43, .p (.bin .lss), [.l 42, .k (.m (.i .i64 0))], none⟩])
    (.ite (.v 43)
      (.seq
      (.reg [⟨.v 4, .p .mv, [.k (.m (.i .i64 (-1)))], none⟩])
      .ret)
      .skip))
    (.reg [⟨.l 44, .p .mv, [.v 9], none⟩,
      ⟨.l 45, .p .mv, [.v 11], none⟩,
      ⟨.l 46, .p (.bin .add), [.l 45, .k (.m (.i .i64 1))], none⟩,
      ⟨.l 47, .p (.bin .add), [.l 44, .l 46], none⟩,
      ⟨.v 9, .p .mv, [.l 47], none⟩])))
    .skip))
  (.seq
  (.seq
  (.reg [⟨.v 12, .p .mv, [.k (.m (.i .i64 1))], none⟩])
  (.blk 3
  c65_L1))
  (.seq
  (.seq
  (.reg [⟨.l 65, .p .mv, [.v 9], none⟩,
    ⟨.l 66, .p .mv, [.v 8], none⟩,
    ⟨.l 67, .p (.bin .sub), [.l 65, .l 66], none⟩,
    ⟨.v 4, .p .mv, [.l 67], none⟩])
  .ret)
  (.seq
  .skip
  (.seq
  (.reg [⟨.l 68, .p .mv, [.v 10], none⟩,
    ⟨.l 69, .p (.bin .add), [.l 68, .k (.m (.i .i64 1))], none⟩,
    ⟨.v 10, .p .mv, [.l 69], none⟩])
  (.seq
  (.reg [⟨.l 70, .p .mv, [.v 9], none⟩,
    ⟨.l 71, .p (.bin .add), [.l 70, .k (.m (.i .i64 1))], none⟩,
    ⟨.v 9, .p .mv, [.l 71], none⟩])
  (.seq
  (.reg [⟨.l 72, .p .mv, [.k (.m (.b true))], none⟩,
    ⟨.l 73, .p .mv, [.v 10], some (.l 72, true)⟩,
    ⟨.l 74, .p .mv, [.v 9], some (.l 72, true)⟩,
    ⟨.l 75, .l (.cal 62), [.l 74], some (.l 72, true)⟩,
    ⟨.l 76, .p (.bin .gtr), [.l 73, .l 75], some (.l 72, true)⟩,
    ⟨.l 77, .p .pick, [.l 72, .l 76, .k (.m (.b false))], none⟩,
    ⟨.l 78, .p .mv, [.l 77], none⟩,
    ⟨.l 79, .p .mv, [.v 9], some (.l 78, true)⟩,
    ⟨.l 80, .p .mv, [.v 0], some (.l 78, true)⟩,
    ⟨.l 81, .p (.len true), [.l 80], some (.l 78, true)⟩,
    ⟨.l 82, .p (.bin .lss), [.l 79, .l 81], some (.l 78, true)⟩,
    ⟨.l 83, .p .pick, [.l 78, .l 82, .k (.m (.b false))], none⟩,
    ⟨.l 84, .p .mv, [.l 83], none⟩,
    ⟨.l 85, .p .mv, [.k (.m (.b false))], some (.l 84, false)⟩,
    ⟨.l 86, .p .mv, [.v 10], some (.l 85, true)⟩,
    ⟨.l 87, .p .mv, [.v 9], some (.l 85, true)⟩,
    ⟨.l 88, .p (.bin .shr), [.l 87, .k (.m (.i .u64 4))], some (.l 85, true)⟩,
    ⟨.l 89, .p (.bin .add), [.k (.m (.i .i64 4)), .l 88], some (.l 85, true)⟩,
    ⟨.l 90, .p (.bin .geq), [.l 86, .l 89], some (.l 85, true)⟩,
    ⟨.l 91, .p .pick, [.l 85, .l 90, .k (.m (.b false))], some (.l 84, false)⟩,
    ⟨.l 92, .p .mv, [.l 91], some (.l 84, false)⟩,
    ⟨.l 93, .p .mv, [.v 9], some (.l 92, true)⟩,
    ⟨.l 94, .p .mv, [.v 0], some (.l 92, true)⟩,
    ⟨.l 95, .p (.len true), [.l 94], some (.l 92, true)⟩,
    ⟨.l 96, .p (.bin .lss), [.l 93, .l 95], some (.l 92, true)⟩,
    ⟨.l 97, .p .pick, [.l 92, .l 96, .k (.m (.b false))], some (.l 84, false)⟩,
    ⟨.v 98, .p .pick, [.l 84, .k (.m (.b true)), .l 97], none⟩])
  (.ite (.v 98)
    (.reg [⟨.no, .p .mv, [], none⟩])
    .skip))))))))))
def c65_L2 : C := .loop [1, 4, 10, 160, 171, 183] c65_B2
def c65_B3 : C :=
  (.seq
  (.seq
  (.reg [⟨.l 140, .p .mv, [.v 16], none⟩,
    ⟨.l 141, .p .mv, [.v 7], none⟩,
    ⟨.l 142, .p (.len true), [.l 141], none⟩,
    ⟨.v 143, .p (.bin .lss), [.l 140, .l 142], none⟩])
  (.ite (.v 143)
    .skip
    (.ex 7)))
  (.seq
  (.blk 8
  (.seq
  (.reg [⟨.l 146, .p .mv, [.v 0], none⟩,
    ⟨.l 147, .p .mv, [.v 9], none⟩,
    ⟨.l 148, .p .mv, [.v 16], none⟩,
    ⟨.l 149, .p (.bin .sub), [.l 147, .l 148], none⟩,
    ⟨.l 150, .p .ixs, [.l 146, .l 149], none⟩,
    ⟨.l 151, .p .mv, [.v 7], none⟩,
    ⟨.l 152, .p .mv, [.v 8], none⟩,
    ⟨.l 153, .p .mv, [.v 16], none⟩,
    ⟨.l 154, .p (.bin .sub), [.l 152, .l 153], none⟩,
    ⟨.l 155, .p .ixs, [.l 151, .l 154], none⟩,
    ⟨.v 156, .p (.bin .neq), [.l 150, .l 155], none⟩])
  (.ite (.v 156)
    (.ex 6)
    .skip)))
  (.reg [⟨.l 144, .p .mv, [.v 16], none⟩,
    ⟨.l 145, .p (.bin .add), [.l 144, .k (.m (.i .i64 1))], none⟩,
    ⟨.v 16, .p .mv, [.l 145], none⟩])))
def c65_L3 : C := .loop [143, 156] c65_B3
def c65_B4 : C :=
  (.seq
  (.seq
  (.reg [⟨.l 121, .p .mv, [.v 9], none⟩,
    ⟨.l 122, .p .mv, [.v 0], none⟩,
    ⟨.l 123, .p (.len true), [.l 122], none⟩,
    ⟨.v 124, .p (.bin .lss), [.l 121, .l 123], none⟩])
  (.ite (.v 124)
    .skip
    (.ex 5)))
  (.seq
  (.blk 6
  (.seq
  (.reg [⟨.l 127, .p .mv, [.v 0], none⟩,
    ⟨.l 128, .p .mv, [.v 9], none⟩,
    ⟨.l 129, .p .ixs, [.l 127, .l 128], none⟩,
    ⟨.l 130, .p .mv, [.v 14], none⟩,
    ⟨.l 131, .p (.bin .eql), [.l 129, .l 130], none⟩,
    ⟨.l 132, .p .mv, [.l 131], none⟩,
    ⟨.l 133, .p .mv, [.v 0], some (.l 132, true)⟩,
    ⟨.l 134, .p .mv, [.v 9], some (.l 132, true)⟩,
    ⟨.l 135, .p (.bin .sub), [.l 134, .k (.m (.i .i64 1))], some (.l 132, true)⟩,
    ⟨.l 136, .p .ixs, [.l 133, .l 135], some (.l 132, true)⟩,
    ⟨.l 137, .p .mv, [.v 15], some (.l 132, true)⟩,
    ⟨.l 138, .p (.bin .eql), [.l 136, .l 137], some (.l 132, true)⟩,
    ⟨.v 139, .p .pick, [.l 132, .l 138, .k (.m (.b false))], none⟩])
  (.ite (.v 139)
    (.seq
    (.seq
    (.reg [⟨.v 16, .p .mv, [.k (.m (.i .i64 2))], none⟩])
    (.blk 7
    c65_L3))
    (.seq
    (.reg [⟨.l 157, .p .mv, [.v 9], none⟩,
      ⟨.l 158, .p .mv, [.v 8], none⟩,
      ⟨.l 159, .p (.bin .sub), [.l 157, .l 158], none⟩,
      ⟨.v 4, .p .mv, [.l 159], none⟩])
    .ret))
    .skip)))
  (.reg [⟨.l 125, .p .mv, [.v 9], none⟩,
    ⟨.l 126, .p (.bin .add), [.l 125, .k (.m (.i .i64 1))], none⟩,
    ⟨.v 9, .p .mv, [.l 126], none⟩])))
def c65_L4 : C := .loop [4, 16, 124, 139, 143, 156] c65_B4
def c65 : F := ⟨2, [.t 4],
  (.seq
  (.reg [⟨.v 4, .p .mv, [.k (.m (.i .i64 0))], none⟩])
  (.blk 0
  (.seq
  (.reg [⟨.l 161, .p .mv, [.v 1], none⟩,
    ⟨.l 162, .p (.bin .leq), [.k (.m (.i .i32 0)), .l 161], none⟩,
    ⟨.l 163, .p .mv, [.l 162], none⟩,
    ⟨.l 164, .p .mv, [.v 1], some (.l 163, true)⟩,
    ⟨.l 165, .p (.bin .lss), [.l 164, .k (.m (.i .i32 128))], some (.l 163, true)⟩,
    ⟨.l 166, .p .pick, [.l 163, .l 165, .k (.m (.b false))], none⟩,
    ⟨.v 160, .p .mv, [.l 166], none⟩])
  (.ite (.v 160)
    (.seq
    (.reg [⟨.l 167, .p .mv, [.v 0], none⟩,
      ⟨.l 168, .p .mv, [.v 1], none⟩,
      ⟨.l 169, .p (.cv .u8), [.l 168], none⟩,
      ⟨.l 170, .l (.cal 73), [.l 167, .l 169], none⟩,
      ⟨.v 4, .p .mv, [.l 170], none⟩])
    .ret)
    (.seq
    (.reg [⟨.l 172, .p .mv, [.v 1], none⟩,
      ⟨.l 173, .p (.bin .eql), [.l 172, .k (.m (.i .i32 65533))], none⟩,
      ⟨.v 171, .p .mv, [.l 173], none⟩])
    (.ite (.v 171)
      (.seq
      (.seq
      (.reg [⟨.l 174, .p .mv, [.v 0], none⟩,
        ⟨.v 175, .p .mv, [], none⟩])
      (.blk 9
      c65_L0))
      (.seq
      (.reg [⟨.v 4, .p .mv, [.k (.m (.i .i64 (-1)))], none⟩])
      .ret))
      (.seq
      (.reg [⟨.l 184, .p .mv, [.v 1], none⟩,
        ⟨.l 185, .l (.cal 74), [.l 184], none⟩,
        ⟨.l 186, .p (.un .not), [.l 185], none⟩,
        ⟨.v 183, .p .mv, [.l 186], none⟩])
      (.ite (.v 183)
        (.seq
        (.reg [⟨.v 4, .p .mv, [.k (.m (.i .i64 (-1)))], none⟩])
        .ret)
        (.seq
        (.reg [⟨.l 17, .p .mv, [.v 1], none⟩,
          ⟨.l 18, .p .mv, [], none⟩,
          ⟨.v 7, .p .mv, [.l 18], none⟩])
        (.seq
        (.reg [⟨.l 19, .p .mv, [.v 7], none⟩,
          ⟨.l 20, .p (.len true), [.l 19], none⟩,
          ⟨.l 21, .p (.bin .sub), [.l 20, .k (.m (.i .i64 1))], none⟩,
          ⟨.v 8, .p .mv, [.l 21], none⟩])
        (.seq
        (.reg [⟨.l 22, .p .mv, [.v 8], none⟩,
          ⟨.v 9, .p .mv, [.l 22], none⟩])
        (.seq
        (.reg [⟨.v 10, .p .mv, [.k (.m (.i .i64 0))], none⟩])
        (.seq
        (.blk 1
        c65_L2)
        (.seq
        (.seq
        (.reg [⟨.v 4, .p .mv, [.k (.m (.i .i64 (-1)))], none⟩])
        .ret)
        (.seq
        .skip
        (.seq
        (.ite (.k (.m (.b true)))
          (.seq
          (.reg [⟨.l 99, .p .mv, [.v 0], none⟩,
            ⟨.l 100, .p .mv, [.v 9], none⟩,
            ⟨.l 101, .p .mv, [.v 8], none⟩,
            ⟨.l 102, .p (.bin .sub), [.l 100, .l 101], none⟩,
            ⟨.l 103, .p (.slc 0 true false false), [.l 99, .l 102], none⟩,
            ⟨.l 104, .p .mv, [.v 1], none⟩,
            ⟨.l 105, .p .mv, [], none⟩,
            ⟨.l 106, .l (.cal 61), [.l 103, .l 105], none⟩,
            ⟨.v 13, .p .mv, [.l 106], none⟩])
          (.seq
          (.reg [⟨.l 107, .p .mv, [.v 13], none⟩,
            ⟨.v 108, .p (.bin .geq), [.l 107, .k (.m (.i .i64 0))], none⟩])
          (.ite (.v 108)
            (.seq
            (.reg [⟨.l 109, .p .mv, [.v 9], none⟩,
              ⟨.l 110, .p .mv, [.v 13], none⟩,
              ⟨.l 111, .p (.bin .add), [.l 109, .l 110], none⟩,
              ⟨.l 112, .p .mv, [.v 8], none⟩,
              ⟨.l 113, .p (.bin .sub), [.l 111, .l 112], none⟩,
              ⟨.v 4, .p .mv, [.l 113], none⟩])
            .ret)
            .skip)))
          (.seq
          (.reg [⟨.l 114, .p .mv, [.v 7], none⟩,
            ⟨.l 115, .p .mv, [.v 8], none⟩,
            ⟨.l 116, .p .ixs, [.l 114, .l 115], none⟩,
            ⟨.v 14, .p .mv, [.l 116], none⟩])
          (.seq
          (.reg [⟨.l 117, .p .mv, [.v 7], none⟩,
            ⟨.l 118, .p .mv, [.v 8], none⟩,
            ⟨.l 119, .p (.bin .sub), [.l 118, .k (.m (.i .i64 1))], none⟩,
            ⟨.l 120, .p .ixs, [.l 117, .l 119], none⟩,
            ⟨.v 15, .p .mv, [.l 120], none⟩])
          (.seq
          .skip
          (.blk 5
          c65_L4)))))
        (.seq
        (.reg [⟨.v 4, .p .mv, [.k (.m (.i .i64 (-1)))], none⟩])
        .ret)))))))))))))))))⟩

/- strings.IndexByte -/
def c73 : F := ⟨2, [.t 4],
  (.seq
  (.reg [⟨.v 4, .p .mv, [.k (.m (.i .i64 0))], none⟩])
  (.seq
  (.reg [⟨.l 5, .p .mv, [.v 0], none⟩,
    ⟨.l 6, .p .mv, [.v 1], none⟩,
    ⟨.l 7, .l (.cal 60), [.l 5, .l 6], none⟩,
    ⟨.v 4, .p .mv, [.l 7], none⟩])
  .ret))⟩


end Go.Mx.Tryd
