/- The compact code of the functions of this seat, printed by a program of my own; XComp checks it against the translation. -/
import Derived.Test.YtchacpbmpgfblaaDoorRng
set_option maxRecDepth 100000
namespace Go.Mx.Tryd

/- cellular/cellularlaw33.CanonCodes -/
def c3 : F := ⟨2, [.t 4],
  (.seq
  (.reg [⟨.v 4, .p .mv, [.k (.m (.b false))], none⟩])
  (.seq
  (.seq
  (.reg [⟨.l 13, .p .mv, [.v 0], none⟩,
    ⟨.l 14, .l (.cal 7), [.l 13], none⟩,
    ⟨.l 15, .p (.un .not), [.l 14], none⟩,
    ⟨.l 16, .p .mv, [.l 15], none⟩,
    ⟨.l 17, .p .mv, [.v 1], some (.l 16, false)⟩,
    ⟨.l 18, .p (.len true), [.l 17], some (.l 16, false)⟩,
    ⟨.l 19, .p (.bin .gtr), [.l 18, .k (.m (.i .i64 1000))], some (.l 16, false)⟩,
    ⟨.v 20, .p .pick, [.l 16, .k (.m (.b true)), .l 19], none⟩])
  (.ite (.v 20)
    (.seq
    (.reg [⟨.l 21, .l (.cal 8), [], none⟩,
      ⟨.v 4, .p .mv, [.l 21], none⟩])
    .ret)
    .skip))
  (.seq
  (.reg [⟨.l 23, .p .mv, [.v 0], none⟩,
    ⟨.l 24, .l (.cal 9), [.l 23], none⟩,
    ⟨.l 22, .p .mv, [.l 24], none⟩,
    ⟨.l 25, .p (.ext 0), [.l 22], none⟩,
    ⟨.l 26, .p (.ext 1), [.l 22], none⟩,
    ⟨.v 5, .p .mv, [.l 25], none⟩,
    ⟨.v 6, .p .mv, [.l 26], none⟩])
  (.seq
  (.reg [⟨.l 28, .p .mv, [.v 0], none⟩,
    ⟨.l 29, .l (.cal 10), [.l 28], none⟩,
    ⟨.l 27, .p .mv, [.l 29], none⟩,
    ⟨.l 30, .p (.ext 0), [.l 27], none⟩,
    ⟨.l 31, .p (.ext 1), [.l 27], none⟩,
    ⟨.v 7, .p .mv, [.l 30], none⟩,
    ⟨.v 8, .p .mv, [.l 31], none⟩])
  (.seq
  (.reg [⟨.l 33, .p .mv, [.v 1], none⟩,
    ⟨.l 34, .l (.cal 11), [.l 33], none⟩,
    ⟨.l 32, .p .mv, [.l 34], none⟩,
    ⟨.l 35, .p (.ext 0), [.l 32], none⟩,
    ⟨.l 36, .p (.ext 1), [.l 32], none⟩,
    ⟨.v 9, .p .mv, [.l 35], none⟩,
    ⟨.v 10, .p .mv, [.l 36], none⟩])
  (.seq
  (.reg [⟨.l 38, .p .mv, [.v 1], none⟩,
    ⟨.l 39, .l (.cal 12), [.l 38], none⟩,
    ⟨.l 37, .p .mv, [.l 39], none⟩,
    ⟨.l 40, .p (.ext 0), [.l 37], none⟩,
    ⟨.l 41, .p (.ext 1), [.l 37], none⟩,
    ⟨.v 11, .p .mv, [.l 40], none⟩,
    ⟨.v 12, .p .mv, [.l 41], none⟩])
  (.seq
  (.reg [⟨.l 42, .p .mv, [.v 5], none⟩,
    ⟨.l 43, .p .mv, [.v 7], none⟩,
    ⟨.l 44, .p (.bin .eql), [.l 42, .l 43], none⟩,
    ⟨.l 45, .p .mv, [.l 44], none⟩,
    ⟨.l 46, .p .mv, [.v 6], some (.l 45, true)⟩,
    ⟨.l 47, .p .mv, [.v 8], some (.l 45, true)⟩,
    ⟨.l 48, .p (.bin .eql), [.l 46, .l 47], some (.l 45, true)⟩,
    ⟨.l 49, .p .pick, [.l 45, .l 48, .k (.m (.b false))], none⟩,
    ⟨.l 50, .p .mv, [.l 49], none⟩,
    ⟨.l 51, .p .mv, [.v 9], some (.l 50, true)⟩,
    ⟨.l 52, .p .mv, [.v 11], some (.l 50, true)⟩,
    ⟨.l 53, .l (.cal 13), [.l 51, .l 52], some (.l 50, true)⟩,
    ⟨.l 54, .p .pick, [.l 50, .l 53, .k (.m (.b false))], none⟩,
    ⟨.l 55, .p .mv, [.l 54], none⟩,
    ⟨.l 56, .p .mv, [.v 10], some (.l 55, true)⟩,
    ⟨.l 57, .p .mv, [.v 12], some (.l 55, true)⟩,
    ⟨.l 58, .p (.bin .eql), [.l 56, .l 57], some (.l 55, true)⟩,
    ⟨.l 59, .p .pick, [.l 55, .l 58, .k (.m (.b false))], none⟩,
    ⟨.l 60, .p .mv, [.l 59], none⟩,
    ⟨.l 61, .l (.cal 8), [], some (.l 60, true)⟩,
    ⟨.l 62, .p .pick, [.l 60, .l 61, .k (.m (.b false))], none⟩,
    ⟨.v 4, .p .mv, [.l 62], none⟩])
  .ret)))))))⟩

/- cellular/cellularlaw33.CanonOneForm -/
def c4 : F := ⟨3, [.t 6],
  (.seq
  (.reg [⟨.v 6, .p .mv, [.k (.m (.b false))], none⟩])
  (.seq
  (.seq
  (.reg [⟨.l 16, .p .mv, [.v 0], none⟩,
    ⟨.l 17, .l (.cal 7), [.l 16], none⟩,
    ⟨.l 18, .p (.un .not), [.l 17], none⟩,
    ⟨.l 19, .p .mv, [.l 18], none⟩,
    ⟨.l 20, .p .mv, [.v 1], some (.l 19, false)⟩,
    ⟨.l 21, .p (.len false), [.l 20], some (.l 19, false)⟩,
    ⟨.l 22, .p (.bin .gtr), [.l 21, .k (.m (.i .i64 20))], some (.l 19, false)⟩,
    ⟨.v 23, .p .pick, [.l 19, .k (.m (.b true)), .l 22], none⟩])
  (.ite (.v 23)
    (.seq
    (.reg [⟨.l 24, .l (.cal 8), [], none⟩,
      ⟨.v 6, .p .mv, [.l 24], none⟩])
    .ret)
    .skip))
  (.seq
  (.reg [⟨.l 26, .p .mv, [.v 0], none⟩,
    ⟨.l 27, .p .mv, [.v 1], none⟩,
    ⟨.l 28, .l (.cal 14), [.l 26, .l 27], none⟩,
    ⟨.l 25, .p .mv, [.l 28], none⟩,
    ⟨.l 29, .p (.ext 0), [.l 25], none⟩,
    ⟨.l 30, .p (.ext 1), [.l 25], none⟩,
    ⟨.v 7, .p .mv, [.l 29], none⟩,
    ⟨.v 8, .p .mv, [.l 30], none⟩])
  (.seq
  (.seq
  (.reg [⟨.l 31, .p .mv, [.v 8], none⟩,
    ⟨.v 32, .p (.bin .neq), [.l 31, .k (.m (.i .i64 0))], none⟩])
  (.ite (.v 32)
    (.seq
    (.reg [⟨.l 33, .l (.cal 8), [], none⟩,
      ⟨.v 6, .p .mv, [.l 33], none⟩])
    .ret)
    .skip))
  (.seq
  (.reg [⟨.l 34, .p .mv, [.v 1], none⟩,
    ⟨.l 35, .l (.cal 15), [.l 34], none⟩,
    ⟨.v 9, .p .mv, [.l 35], none⟩])
  (.seq
  (.seq
  (.reg [⟨.l 36, .p .mv, [.v 9], none⟩,
    ⟨.l 37, .p (.len false), [.l 36], none⟩,
    ⟨.v 38, .p (.bin .eql), [.l 37, .k (.m (.i .i64 0))], none⟩])
  (.ite (.v 38)
    (.seq
    (.reg [⟨.l 39, .l (.cal 8), [], none⟩,
      ⟨.v 6, .p .mv, [.l 39], none⟩])
    .ret)
    .skip))
  (.seq
  (.reg [⟨.l 41, .p .mv, [.v 0], none⟩,
    ⟨.l 42, .p .mv, [.v 9], none⟩,
    ⟨.l 43, .p .mv, [.v 2], none⟩,
    ⟨.l 44, .p (.cv .i64), [.l 43], none⟩,
    ⟨.l 45, .p .mv, [.v 9], none⟩,
    ⟨.l 46, .p (.len false), [.l 45], none⟩,
    ⟨.l 47, .p (.bin .rem), [.l 44, .l 46], none⟩,
    ⟨.l 48, .p (.ixa 1), [.l 42, .l 47], none⟩,
    ⟨.l 49, .r (.ld false 1), [.l 48], none⟩,
    ⟨.l 50, .l (.cal 17), [.l 41, .l 49], none⟩,
    ⟨.l 51, .p .mv, [.v 2], none⟩,
    ⟨.l 52, .p (.cv .i64), [.l 51], none⟩,
    ⟨.l 53, .p (.bin .sub), [.k (.m (.i .i64 5)), .l 52], none⟩,
    ⟨.l 54, .p .mv, [.v 2], none⟩,
    ⟨.l 55, .p (.cv .i64), [.l 54], none⟩,
    ⟨.l 56, .p (.bin .sub), [.l 55, .k (.m (.i .i64 9))], none⟩,
    ⟨.l 57, .l (.cal 16), [.l 50, .l 53, .l 56], none⟩,
    ⟨.l 40, .p .mv, [.l 57], none⟩,
    ⟨.l 58, .p (.ext 0), [.l 40], none⟩,
    ⟨.l 59, .p (.ext 1), [.l 40], none⟩,
    ⟨.v 10, .p .mv, [.l 58], none⟩,
    ⟨.l 11, .p .mv, [.l 59], none⟩])
  (.seq
  (.seq
  (.reg [⟨.l 60, .p .mv, [.v 10], none⟩,
    ⟨.l 61, .l (.cal 18), [.l 60], none⟩,
    ⟨.l 62, .p (.un .not), [.l 61], none⟩,
    ⟨.l 63, .p .mv, [.l 62], none⟩,
    ⟨.l 64, .p .mv, [.v 10], some (.l 63, false)⟩,
    ⟨.l 65, .p (.len false), [.l 64], some (.l 63, false)⟩,
    ⟨.l 66, .p .mv, [.v 0], some (.l 63, false)⟩,
    ⟨.l 67, .p (.len false), [.l 66], some (.l 63, false)⟩,
    ⟨.l 68, .p (.bin .neq), [.l 65, .l 67], some (.l 63, false)⟩,
    ⟨.v 69, .p .pick, [.l 63, .k (.m (.b true)), .l 68], none⟩])
  (.ite (.v 69)
    (.seq
    (.reg [⟨.l 70, .l (.cal 8), [], none⟩,
      ⟨.v 6, .p .mv, [.l 70], none⟩])
    .ret)
    .skip))
  (.seq
  (.reg [⟨.l 72, .p .mv, [.v 10], none⟩,
    ⟨.l 73, .p .mv, [.v 1], none⟩,
    ⟨.l 74, .l (.cal 14), [.l 72, .l 73], none⟩,
    ⟨.l 71, .p .mv, [.l 74], none⟩,
    ⟨.l 75, .p (.ext 0), [.l 71], none⟩,
    ⟨.l 76, .p (.ext 1), [.l 71], none⟩,
    ⟨.v 12, .p .mv, [.l 75], none⟩,
    ⟨.v 13, .p .mv, [.l 76], none⟩])
  (.seq
  (.reg [⟨.l 78, .p .mv, [.v 7], none⟩,
    ⟨.l 79, .p .mv, [.v 1], none⟩,
    ⟨.l 80, .l (.cal 14), [.l 78, .l 79], none⟩,
    ⟨.l 77, .p .mv, [.l 80], none⟩,
    ⟨.l 81, .p (.ext 0), [.l 77], none⟩,
    ⟨.l 82, .p (.ext 1), [.l 77], none⟩,
    ⟨.v 14, .p .mv, [.l 81], none⟩,
    ⟨.v 15, .p .mv, [.l 82], none⟩])
  (.seq
  (.reg [⟨.l 83, .p .mv, [.v 13], none⟩,
    ⟨.l 84, .p (.bin .eql), [.l 83, .k (.m (.i .i64 0))], none⟩,
    ⟨.l 85, .p .mv, [.l 84], none⟩,
    ⟨.l 86, .p .mv, [.v 15], some (.l 85, true)⟩,
    ⟨.l 87, .p (.bin .eql), [.l 86, .k (.m (.i .i64 0))], some (.l 85, true)⟩,
    ⟨.l 88, .p .pick, [.l 85, .l 87, .k (.m (.b false))], none⟩,
    ⟨.l 89, .p .mv, [.l 88], none⟩,
    ⟨.l 90, .p .mv, [.v 7], some (.l 89, true)⟩,
    ⟨.l 91, .p .mv, [.v 12], some (.l 89, true)⟩,
    ⟨.l 92, .l (.cal 13), [.l 90, .l 91], some (.l 89, true)⟩,
    ⟨.l 93, .p .pick, [.l 89, .l 92, .k (.m (.b false))], none⟩,
    ⟨.l 94, .p .mv, [.l 93], none⟩,
    ⟨.l 95, .p .mv, [.v 7], some (.l 94, true)⟩,
    ⟨.l 96, .p .mv, [.v 14], some (.l 94, true)⟩,
    ⟨.l 97, .l (.cal 13), [.l 95, .l 96], some (.l 94, true)⟩,
    ⟨.l 98, .p .pick, [.l 94, .l 97, .k (.m (.b false))], none⟩,
    ⟨.l 99, .p .mv, [.l 98], none⟩,
    ⟨.l 100, .l (.cal 8), [], some (.l 99, true)⟩,
    ⟨.l 101, .p .pick, [.l 99, .l 100, .k (.m (.b false))], none⟩,
    ⟨.v 6, .p .mv, [.l 101], none⟩])
  .ret)))))))))))⟩

/- cellular/cellularlaw33.CanonRoundTrip -/
def c5 : F := ⟨3, [.t 6],
  (.seq
  (.reg [⟨.v 6, .p .mv, [.k (.m (.b false))], none⟩])
  (.seq
  (.seq
  (.reg [⟨.l 17, .p .mv, [.v 0], none⟩,
    ⟨.l 18, .l (.cal 7), [.l 17], none⟩,
    ⟨.l 19, .p (.un .not), [.l 18], none⟩,
    ⟨.l 20, .p .mv, [.l 19], none⟩,
    ⟨.l 21, .p .mv, [.v 1], some (.l 20, false)⟩,
    ⟨.l 22, .l (.cal 7), [.l 21], some (.l 20, false)⟩,
    ⟨.l 23, .p (.un .not), [.l 22], some (.l 20, false)⟩,
    ⟨.l 24, .p .pick, [.l 20, .k (.m (.b true)), .l 23], none⟩,
    ⟨.l 25, .p .mv, [.l 24], none⟩,
    ⟨.l 26, .p .mv, [.v 2], some (.l 25, false)⟩,
    ⟨.l 27, .p (.len true), [.l 26], some (.l 25, false)⟩,
    ⟨.l 28, .p (.bin .gtr), [.l 27, .k (.m (.i .i64 1000))], some (.l 25, false)⟩,
    ⟨.v 29, .p .pick, [.l 25, .k (.m (.b true)), .l 28], none⟩])
  (.ite (.v 29)
    (.seq
    (.reg [⟨.l 30, .l (.cal 8), [], none⟩,
      ⟨.v 6, .p .mv, [.l 30], none⟩])
    .ret)
    .skip))
  (.seq
  (.reg [⟨.l 32, .p .mv, [.v 0], none⟩,
    ⟨.l 33, .l (.cal 9), [.l 32], none⟩,
    ⟨.l 31, .p .mv, [.l 33], none⟩,
    ⟨.l 34, .p (.ext 0), [.l 31], none⟩,
    ⟨.l 35, .p (.ext 1), [.l 31], none⟩,
    ⟨.v 7, .p .mv, [.l 34], none⟩,
    ⟨.v 8, .p .mv, [.l 35], none⟩])
  (.seq
  (.reg [⟨.l 37, .p .mv, [.v 1], none⟩,
    ⟨.l 38, .l (.cal 9), [.l 37], none⟩,
    ⟨.l 36, .p .mv, [.l 38], none⟩,
    ⟨.l 39, .p (.ext 0), [.l 36], none⟩,
    ⟨.l 40, .p (.ext 1), [.l 36], none⟩,
    ⟨.v 9, .p .mv, [.l 39], none⟩,
    ⟨.v 10, .p .mv, [.l 40], none⟩])
  (.seq
  (.seq
  (.reg [⟨.l 41, .p .mv, [.v 8], none⟩,
    ⟨.v 42, .p (.bin .eql), [.l 41, .k (.m (.i .i64 0))], none⟩])
  (.ite (.v 42)
    (.seq
    (.reg [⟨.l 44, .p .mv, [.v 7], none⟩,
      ⟨.l 45, .l (.cal 11), [.l 44], none⟩,
      ⟨.l 43, .p .mv, [.l 45], none⟩,
      ⟨.l 46, .p (.ext 0), [.l 43], none⟩,
      ⟨.l 47, .p (.ext 1), [.l 43], none⟩,
      ⟨.v 11, .p .mv, [.l 46], none⟩,
      ⟨.v 12, .p .mv, [.l 47], none⟩])
    (.seq
    (.reg [⟨.l 48, .p .mv, [.v 12], none⟩,
      ⟨.l 49, .p (.bin .neq), [.l 48, .k (.m (.i .i64 0))], none⟩,
      ⟨.l 50, .p .mv, [.l 49], none⟩,
      ⟨.l 51, .p .mv, [.v 11], some (.l 50, false)⟩,
      ⟨.l 52, .p .mv, [.v 0], some (.l 50, false)⟩,
      ⟨.l 53, .l (.cal 17), [.l 52, .k (.m (.i .i64 0))], some (.l 50, false)⟩,
      ⟨.l 54, .l (.cal 13), [.l 51, .l 53], some (.l 50, false)⟩,
      ⟨.l 55, .p (.un .not), [.l 54], some (.l 50, false)⟩,
      ⟨.v 56, .p .pick, [.l 50, .k (.m (.b true)), .l 55], none⟩])
    (.ite (.v 56)
      (.seq
      (.reg [⟨.v 6, .p .mv, [.k (.m (.b false))], none⟩])
      .ret)
      .skip)))
    .skip))
  (.seq
  (.seq
  (.reg [⟨.l 57, .p .mv, [.v 8], none⟩,
    ⟨.l 58, .p (.bin .eql), [.l 57, .k (.m (.i .i64 0))], none⟩,
    ⟨.l 59, .p .mv, [.l 58], none⟩,
    ⟨.l 60, .p .mv, [.v 10], some (.l 59, true)⟩,
    ⟨.l 61, .p (.bin .eql), [.l 60, .k (.m (.i .i64 0))], some (.l 59, true)⟩,
    ⟨.l 62, .p .pick, [.l 59, .l 61, .k (.m (.b false))], none⟩,
    ⟨.l 63, .p .mv, [.l 62], none⟩,
    ⟨.l 64, .p .mv, [.v 7], some (.l 63, true)⟩,
    ⟨.l 65, .p .mv, [.v 9], some (.l 63, true)⟩,
    ⟨.l 66, .p (.bin .eql), [.l 64, .l 65], some (.l 63, true)⟩,
    ⟨.l 67, .p .mv, [.v 0], some (.l 63, true)⟩,
    ⟨.l 68, .l (.cal 17), [.l 67, .k (.m (.i .i64 0))], some (.l 63, true)⟩,
    ⟨.l 69, .p .mv, [.v 1], some (.l 63, true)⟩,
    ⟨.l 70, .l (.cal 17), [.l 69, .k (.m (.i .i64 0))], some (.l 63, true)⟩,
    ⟨.l 71, .l (.cal 13), [.l 68, .l 70], some (.l 63, true)⟩,
    ⟨.l 72, .p (.eqb true), [.l 66, .l 71], some (.l 63, true)⟩,
    ⟨.v 73, .p .pick, [.l 63, .l 72, .k (.m (.b false))], none⟩])
  (.ite (.v 73)
    (.seq
    (.reg [⟨.v 6, .p .mv, [.k (.m (.b false))], none⟩])
    .ret)
    .skip))
  (.seq
  (.reg [⟨.l 75, .p .mv, [.v 2], none⟩,
    ⟨.l 76, .l (.cal 11), [.l 75], none⟩,
    ⟨.l 74, .p .mv, [.l 76], none⟩,
    ⟨.l 77, .p (.ext 0), [.l 74], none⟩,
    ⟨.l 78, .p (.ext 1), [.l 74], none⟩,
    ⟨.v 13, .p .mv, [.l 77], none⟩,
    ⟨.v 14, .p .mv, [.l 78], none⟩])
  (.seq
  (.seq
  (.reg [⟨.l 79, .p .mv, [.v 14], none⟩,
    ⟨.v 80, .p (.bin .eql), [.l 79, .k (.m (.i .i64 0))], none⟩])
  (.ite (.v 80)
    (.seq
    (.reg [⟨.l 82, .p .mv, [.v 13], none⟩,
      ⟨.l 83, .l (.cal 9), [.l 82], none⟩,
      ⟨.l 81, .p .mv, [.l 83], none⟩,
      ⟨.l 84, .p (.ext 0), [.l 81], none⟩,
      ⟨.l 85, .p (.ext 1), [.l 81], none⟩,
      ⟨.v 15, .p .mv, [.l 84], none⟩,
      ⟨.v 16, .p .mv, [.l 85], none⟩])
    (.seq
    (.reg [⟨.l 86, .p .mv, [.v 16], none⟩,
      ⟨.l 87, .p (.bin .eql), [.l 86, .k (.m (.i .i64 0))], none⟩,
      ⟨.l 88, .p .mv, [.l 87], none⟩,
      ⟨.l 89, .p .mv, [.v 15], some (.l 88, true)⟩,
      ⟨.l 90, .p .mv, [.v 2], some (.l 88, true)⟩,
      ⟨.l 91, .p (.bin .eql), [.l 89, .l 90], some (.l 88, true)⟩,
      ⟨.l 92, .p .pick, [.l 88, .l 91, .k (.m (.b false))], none⟩,
      ⟨.l 93, .p .mv, [.l 92], none⟩,
      ⟨.l 94, .l (.cal 8), [], some (.l 93, true)⟩,
      ⟨.l 95, .p .pick, [.l 93, .l 94, .k (.m (.b false))], none⟩,
      ⟨.v 6, .p .mv, [.l 95], none⟩])
    .ret))
    .skip))
  (.seq
  (.reg [⟨.l 96, .l (.cal 8), [], none⟩,
    ⟨.v 6, .p .mv, [.l 96], none⟩])
  .ret)))))))))⟩

/- cellular/cellularlaw33.CanonGroups -/
def c6 : F := ⟨1, [.t 2],
  (.seq
  (.reg [⟨.v 2, .p .mv, [.k (.m (.b false))], none⟩])
  (.seq
  (.seq
  (.reg [⟨.l 4, .p .mv, [.v 0], none⟩,
    ⟨.l 5, .l (.cal 7), [.l 4], none⟩,
    ⟨.v 6, .p (.un .not), [.l 5], none⟩])
  (.ite (.v 6)
    (.seq
    (.reg [⟨.l 7, .l (.cal 8), [], none⟩,
      ⟨.v 2, .p .mv, [.l 7], none⟩])
    .ret)
    .skip))
  (.seq
  (.reg [⟨.l 8, .p .mv, [.v 0], none⟩,
    ⟨.l 9, .l (.cal 19), [.l 8], none⟩,
    ⟨.v 3, .p .mv, [.l 9], none⟩])
  (.seq
  (.seq
  (.reg [⟨.l 10, .p .mv, [.v 3], none⟩,
    ⟨.l 11, .p (.len false), [.l 10], none⟩,
    ⟨.v 12, .p (.bin .eql), [.l 11, .k (.m (.i .i64 0))], none⟩])
  (.ite (.v 12)
    (.seq
    (.reg [⟨.l 13, .p .mv, [.v 0], none⟩,
      ⟨.l 14, .l (.cal 18), [.l 13], none⟩,
      ⟨.l 15, .p (.un .not), [.l 14], none⟩,
      ⟨.l 16, .p .mv, [.l 15], none⟩,
      ⟨.l 17, .p .mv, [.v 0], some (.l 16, false)⟩,
      ⟨.l 18, .l (.cal 20), [.l 17], some (.l 16, false)⟩,
      ⟨.l 19, .p .pick, [.l 16, .k (.m (.b true)), .l 18], none⟩,
      ⟨.l 20, .p .mv, [.l 19], none⟩,
      ⟨.l 21, .l (.cal 8), [], some (.l 20, true)⟩,
      ⟨.l 22, .p .pick, [.l 20, .l 21, .k (.m (.b false))], none⟩,
      ⟨.v 2, .p .mv, [.l 22], none⟩])
    .ret)
    .skip))
  (.seq
  (.reg [⟨.l 23, .p .mv, [.v 3], none⟩,
    ⟨.l 24, .l (.cal 15), [.l 23], none⟩,
    ⟨.l 25, .p .mv, [.v 3], none⟩,
    ⟨.l 26, .l (.cal 21), [.l 24, .l 25], none⟩,
    ⟨.l 27, .p .mv, [.l 26], none⟩,
    ⟨.l 28, .l (.cal 8), [], some (.l 27, true)⟩,
    ⟨.l 29, .p .pick, [.l 27, .l 28, .k (.m (.b false))], none⟩,
    ⟨.v 2, .p .mv, [.l 29], none⟩])
  .ret)))))⟩

/- cellular/cellularlaw33.few -/
def c7 : F := ⟨1, [.t 2],
  (.seq
  (.reg [⟨.v 2, .p .mv, [.k (.m (.b false))], none⟩])
  (.seq
  (.reg [⟨.l 3, .p .mv, [.v 0], none⟩,
    ⟨.l 4, .p (.len false), [.l 3], none⟩,
    ⟨.l 5, .p (.bin .leq), [.l 4, .k (.m (.i .i64 300))], none⟩,
    ⟨.v 2, .p .mv, [.l 5], none⟩])
  .ret))⟩

/- cellular/cellularlaw33.awake -/
def c8 : F := ⟨0, [.t 0],
  (.seq
  (.reg [⟨.v 0, .p .mv, [.k (.m (.b false))], none⟩])
  (.seq
  (.reg [⟨.l 13, .p (.build [.m (.i .i64 0), .m (.i .i64 0), .m (.i .i64 0)] [(2, 1)]), [.k (.m (.i .i64 1))], none⟩,
    ⟨.l 14, .p (.build [.m (.i .i64 0), .m (.i .i64 0), .m (.i .i64 0)] [(0, 1), (2, 1)]), [.k (.m (.i .i64 1)), .k (.m (.i .i64 1))], none⟩,
    ⟨.l 15, .p (.build [.m (.i .i64 0), .m (.i .i64 0), .m (.i .i64 0)] [(1, 1), (2, 1)]), [.k (.m (.i .i64 1)), .k (.m (.i .i64 1))], none⟩,
    ⟨.l 16, .p (.build [.m (.i .i64 0), .m (.i .i64 0), .m (.i .i64 0)] [(0, 1), (1, 1), (2, 1)]), [.k (.m (.i .i64 1)), .k (.m (.i .i64 1)), .k (.m (.i .i64 1))], none⟩,
    ⟨.l 17, .p (.bsl 3 [.m (.i .i64 0), .m (.i .i64 0), .m (.i .i64 0)] 4 [0, 1, 2, 3]), [.l 13, .l 14, .l 15, .l 16], none⟩,
    ⟨.v 1, .p .mv, [.l 17], none⟩])
  (.seq
  (.reg [⟨.l 19, .p .mv, [.v 1], none⟩,
    ⟨.l 20, .l (.cal 9), [.l 19], none⟩,
    ⟨.l 18, .p .mv, [.l 20], none⟩,
    ⟨.l 21, .p (.ext 0), [.l 18], none⟩,
    ⟨.l 22, .p (.ext 1), [.l 18], none⟩,
    ⟨.v 2, .p .mv, [.l 21], none⟩,
    ⟨.v 3, .p .mv, [.l 22], none⟩])
  (.seq
  (.reg [⟨.l 24, .p (.build [.m (.i .i64 0), .m (.i .i64 0), .m (.i .i64 0)] [(0, 1), (1, 1), (2, 1)]), [.k (.m (.i .i64 5)), .k (.m (.i .i64 5)), .k (.m (.i .i64 1))], none⟩,
    ⟨.l 25, .p (.build [.m (.i .i64 0), .m (.i .i64 0), .m (.i .i64 0)] [(0, 1), (1, 1), (2, 1)]), [.k (.m (.i .i64 7)), .k (.m (.i .i64 5)), .k (.m (.i .i64 2))], none⟩,
    ⟨.l 26, .p (.build [.m (.i .i64 0), .m (.i .i64 0), .m (.i .i64 0)] [(0, 1), (1, 1), (2, 1)]), [.k (.m (.i .i64 5)), .k (.m (.i .i64 8)), .k (.m (.i .i64 1))], none⟩,
    ⟨.l 27, .p (.bsl 3 [.m (.i .i64 0), .m (.i .i64 0), .m (.i .i64 0)] 3 [0, 1, 2]), [.l 24, .l 25, .l 26], none⟩,
    ⟨.l 28, .l (.cal 9), [.l 27], none⟩,
    ⟨.l 23, .p .mv, [.l 28], none⟩,
    ⟨.l 29, .p (.ext 0), [.l 23], none⟩,
    ⟨.l 30, .p (.ext 1), [.l 23], none⟩,
    ⟨.v 4, .p .mv, [.l 29], none⟩,
    ⟨.v 5, .p .mv, [.l 30], none⟩])
  (.seq
  (.reg [⟨.l 31, .p (.build [.m (.i .i64 0), .m (.i .i64 0), .m (.i .i64 0)] [(2, 1)]), [.k (.m (.i .i64 1))], none⟩,
    ⟨.l 32, .p (.build [.m (.i .i64 0), .m (.i .i64 0), .m (.i .i64 0)] [(1, 1), (2, 1)]), [.k (.m (.i .i64 1)), .k (.m (.i .i64 1))], none⟩,
    ⟨.l 33, .p (.build [.m (.i .i64 0), .m (.i .i64 0), .m (.i .i64 0)] [(1, 1), (2, 1)]), [.k (.m (.i .i64 2)), .k (.m (.i .i64 1))], none⟩,
    ⟨.l 34, .p (.bsl 3 [.m (.i .i64 0), .m (.i .i64 0), .m (.i .i64 0)] 3 [0, 1, 2]), [.l 31, .l 32, .l 33], none⟩,
    ⟨.v 6, .p .mv, [.l 34], none⟩])
  (.seq
  (.reg [⟨.l 35, .p (.build [.m (.i .i64 0), .m (.i .i64 0), .m (.i .i64 0)] [(2, 1)]), [.k (.m (.i .i64 1))], none⟩,
    ⟨.l 36, .p (.build [.m (.i .i64 0), .m (.i .i64 0), .m (.i .i64 0)] [(0, 1), (2, 1)]), [.k (.m (.i .i64 1)), .k (.m (.i .i64 1))], none⟩,
    ⟨.l 37, .p (.build [.m (.i .i64 0), .m (.i .i64 0), .m (.i .i64 0)] [(0, 1), (2, 1)]), [.k (.m (.i .i64 2)), .k (.m (.i .i64 1))], none⟩,
    ⟨.l 38, .p (.bsl 3 [.m (.i .i64 0), .m (.i .i64 0), .m (.i .i64 0)] 3 [0, 1, 2]), [.l 35, .l 36, .l 37], none⟩,
    ⟨.v 7, .p .mv, [.l 38], none⟩])
  (.seq
  (.reg [⟨.l 40, .p .mv, [.v 6], none⟩,
    ⟨.l 41, .p (.bsl 1 [.m (.i .i64 0)] 2 [0, 1]), [.k (.m (.i .i64 1)), .k (.m (.i .i64 4))], none⟩,
    ⟨.l 42, .l (.cal 14), [.l 40, .l 41], none⟩,
    ⟨.l 39, .p .mv, [.l 42], none⟩,
    ⟨.l 43, .p (.ext 0), [.l 39], none⟩,
    ⟨.l 44, .p (.ext 1), [.l 39], none⟩,
    ⟨.v 8, .p .mv, [.l 43], none⟩,
    ⟨.v 9, .p .mv, [.l 44], none⟩])
  (.seq
  (.reg [⟨.l 45, .p (.build [.m (.i .i64 0), .m (.i .i64 0), .m (.i .i64 0)] [(0, 1), (2, 1)]), [.k (.m (.i .i64 1)), .k (.m (.i .i64 1))], none⟩,
    ⟨.l 46, .p (.build [.m (.i .i64 0), .m (.i .i64 0), .m (.i .i64 0)] [(0, 1), (1, 1), (2, 1)]), [.k (.m (.i .i64 2)), .k (.m (.i .i64 1)), .k (.m (.i .i64 1))], none⟩,
    ⟨.l 47, .p (.build [.m (.i .i64 0), .m (.i .i64 0), .m (.i .i64 0)] [(1, 1), (2, 1)]), [.k (.m (.i .i64 2)), .k (.m (.i .i64 1))], none⟩,
    ⟨.l 48, .p (.build [.m (.i .i64 0), .m (.i .i64 0), .m (.i .i64 0)] [(0, 1), (1, 1), (2, 1)]), [.k (.m (.i .i64 1)), .k (.m (.i .i64 2)), .k (.m (.i .i64 1))], none⟩,
    ⟨.l 49, .p (.build [.m (.i .i64 0), .m (.i .i64 0), .m (.i .i64 0)] [(0, 1), (1, 1), (2, 1)]), [.k (.m (.i .i64 2)), .k (.m (.i .i64 2)), .k (.m (.i .i64 1))], none⟩,
    ⟨.l 50, .p (.bsl 3 [.m (.i .i64 0), .m (.i .i64 0), .m (.i .i64 0)] 5 [0, 1, 2, 3, 4]), [.l 45, .l 46, .l 47, .l 48, .l 49], none⟩,
    ⟨.v 10, .p .mv, [.l 50], none⟩])
  (.seq
  (.reg [⟨.l 52, .l (.cal 11), [.k (.m (.s [50, 65, 36, 50, 65]))], none⟩,
    ⟨.l 51, .p .mv, [.l 52], none⟩,
    ⟨.l 53, .p (.ext 0), [.l 51], none⟩,
    ⟨.l 54, .p (.ext 1), [.l 51], none⟩,
    ⟨.v 11, .p .mv, [.l 53], none⟩,
    ⟨.v 12, .p .mv, [.l 54], none⟩])
  (.seq
  (.reg [⟨.l 55, .p .mv, [.v 3], none⟩,
    ⟨.l 56, .p (.bin .eql), [.l 55, .k (.m (.i .i64 0))], none⟩,
    ⟨.l 57, .p .mv, [.l 56], none⟩,
    ⟨.l 58, .p .mv, [.v 2], some (.l 57, true)⟩,
    ⟨.l 59, .p (.bin .eql), [.l 58, .k (.m (.s [50, 65, 36, 50, 65]))], some (.l 57, true)⟩,
    ⟨.l 60, .p .pick, [.l 57, .l 59, .k (.m (.b false))], none⟩,
    ⟨.l 61, .p .mv, [.l 60], none⟩,
    ⟨.l 62, .p .mv, [.v 5], some (.l 61, true)⟩,
    ⟨.l 63, .p (.bin .eql), [.l 62, .k (.m (.i .i64 0))], some (.l 61, true)⟩,
    ⟨.l 64, .p .pick, [.l 61, .l 63, .k (.m (.b false))], none⟩,
    ⟨.l 65, .p .mv, [.l 64], none⟩,
    ⟨.l 66, .p .mv, [.v 4], some (.l 65, true)⟩,
    ⟨.l 67, .p (.bin .eql), [.l 66, .k (.m (.s [65, 46, 66, 51, 36, 65]))], some (.l 65, true)⟩,
    ⟨.l 68, .p .pick, [.l 65, .l 67, .k (.m (.b false))], none⟩,
    ⟨.l 69, .p .mv, [.l 68], none⟩,
    ⟨.l 70, .p .mv, [.v 9], some (.l 69, true)⟩,
    ⟨.l 71, .p (.bin .eql), [.l 70, .k (.m (.i .i64 0))], some (.l 69, true)⟩,
    ⟨.l 72, .p .pick, [.l 69, .l 71, .k (.m (.b false))], none⟩,
    ⟨.l 73, .p .mv, [.l 72], none⟩,
    ⟨.l 74, .p .mv, [.v 8], some (.l 73, true)⟩,
    ⟨.l 75, .p .mv, [.v 7], some (.l 73, true)⟩,
    ⟨.l 76, .l (.cal 13), [.l 74, .l 75], some (.l 73, true)⟩,
    ⟨.l 77, .p .pick, [.l 73, .l 76, .k (.m (.b false))], none⟩,
    ⟨.l 78, .p .mv, [.l 77], none⟩,
    ⟨.l 79, .p .mv, [.v 10], some (.l 78, true)⟩,
    ⟨.l 80, .l (.cal 19), [.l 79], some (.l 78, true)⟩,
    ⟨.l 81, .p (.bsl 1 [.m (.i .i64 0)] 1 [0]), [.k (.m (.i .i64 0))], some (.l 78, true)⟩,
    ⟨.l 82, .l (.cal 21), [.l 80, .l 81], some (.l 78, true)⟩,
    ⟨.l 83, .p .pick, [.l 78, .l 82, .k (.m (.b false))], none⟩,
    ⟨.l 84, .p .mv, [.l 83], none⟩,
    ⟨.l 85, .p .mv, [.v 7], some (.l 84, true)⟩,
    ⟨.l 86, .p (.slc 3 false true false), [.l 85, .k (.m (.i .i64 2))], some (.l 84, true)⟩,
    ⟨.l 87, .l (.cal 19), [.l 86], some (.l 84, true)⟩,
    ⟨.l 88, .p (.bsl 1 [.m (.i .i64 0)] 4 [0, 1, 2, 3]), [.k (.m (.i .i64 0)), .k (.m (.i .i64 2)), .k (.m (.i .i64 4)), .k (.m (.i .i64 6))], some (.l 84, true)⟩,
    ⟨.l 89, .l (.cal 21), [.l 87, .l 88], some (.l 84, true)⟩,
    ⟨.l 90, .p .pick, [.l 84, .l 89, .k (.m (.b false))], none⟩,
    ⟨.l 91, .p .mv, [.l 90], none⟩,
    ⟨.l 92, .l (.cal 19), [.k (.m (.nl 4))], some (.l 91, true)⟩,
    ⟨.l 93, .p (.len false), [.l 92], some (.l 91, true)⟩,
    ⟨.l 94, .p (.bin .eql), [.l 93, .k (.m (.i .i64 8))], some (.l 91, true)⟩,
    ⟨.l 95, .p .pick, [.l 91, .l 94, .k (.m (.b false))], none⟩,
    ⟨.l 96, .p .mv, [.l 95], none⟩,
    ⟨.l 97, .p .mv, [.v 12], some (.l 96, true)⟩,
    ⟨.l 98, .p (.bin .eql), [.l 97, .k (.m (.i .i64 0))], some (.l 96, true)⟩,
    ⟨.l 99, .p .pick, [.l 96, .l 98, .k (.m (.b false))], none⟩,
    ⟨.l 100, .p .mv, [.l 99], none⟩,
    ⟨.l 101, .p .mv, [.v 11], some (.l 100, true)⟩,
    ⟨.l 102, .p .mv, [.v 1], some (.l 100, true)⟩,
    ⟨.l 103, .l (.cal 13), [.l 101, .l 102], some (.l 100, true)⟩,
    ⟨.l 104, .p .pick, [.l 100, .l 103, .k (.m (.b false))], none⟩,
    ⟨.l 105, .p .mv, [.l 104], none⟩,
    ⟨.l 106, .l (.cal 22), [.k (.m (.s [65, 65]))], some (.l 105, true)⟩,
    ⟨.l 107, .p .pick, [.l 105, .l 106, .k (.m (.b false))], none⟩,
    ⟨.l 108, .p .mv, [.l 107], none⟩,
    ⟨.l 109, .l (.cal 22), [.k (.m (.s [49, 65]))], some (.l 108, true)⟩,
    ⟨.l 110, .p .pick, [.l 108, .l 109, .k (.m (.b false))], none⟩,
    ⟨.l 111, .p .mv, [.l 110], none⟩,
    ⟨.l 112, .l (.cal 22), [.k (.m (.s [65, 46]))], some (.l 111, true)⟩,
    ⟨.l 113, .p .pick, [.l 111, .l 112, .k (.m (.b false))], none⟩,
    ⟨.l 114, .p .mv, [.l 113], none⟩,
    ⟨.l 115, .l (.cal 22), [.k (.m (.s [65, 36]))], some (.l 114, true)⟩,
    ⟨.l 116, .p .pick, [.l 114, .l 115, .k (.m (.b false))], none⟩,
    ⟨.l 117, .p .mv, [.l 116], none⟩,
    ⟨.l 118, .l (.cal 22), [.k (.m (.s []))], some (.l 117, true)⟩,
    ⟨.l 119, .p .pick, [.l 117, .l 118, .k (.m (.b false))], none⟩,
    ⟨.l 120, .p .mv, [.l 119], none⟩,
    ⟨.l 121, .p .mv, [.v 6], some (.l 120, true)⟩,
    ⟨.l 122, .p .mv, [.v 7], some (.l 120, true)⟩,
    ⟨.l 123, .p (.bsl 1 [.m (.i .i64 0)] 1 [0]), [.k (.m (.i .i64 1))], some (.l 120, true)⟩,
    ⟨.l 124, .l (.cal 23), [.l 121, .l 122, .l 123], some (.l 120, true)⟩,
    ⟨.l 125, .p .pick, [.l 120, .l 124, .k (.m (.b false))], none⟩,
    ⟨.l 126, .p .mv, [.l 125], none⟩,
    ⟨.l 127, .p .mv, [.v 6], some (.l 126, true)⟩,
    ⟨.l 128, .p .mv, [.v 7], some (.l 126, true)⟩,
    ⟨.l 129, .l (.cal 23), [.l 127, .l 128, .k (.m (.nl 4))], some (.l 126, true)⟩,
    ⟨.l 130, .p (.un .not), [.l 129], some (.l 126, true)⟩,
    ⟨.l 131, .p .pick, [.l 126, .l 130, .k (.m (.b false))], none⟩,
    ⟨.v 0, .p .mv, [.l 131], none⟩])
  .ret))))))))))⟩

/- cellular/canon.Code -/
def c9 : F := ⟨1, [.t 2, .t 3],
  (.seq
  (.reg [⟨.v 2, .p .mv, [.k (.m (.s []))], none⟩,
    ⟨.v 3, .p .mv, [.k (.m (.i .i64 0))], none⟩])
  (.seq
  (.seq
  (.reg [⟨.l 5, .p .mv, [.v 0], none⟩,
    ⟨.l 6, .l (.cal 24), [.l 5], none⟩,
    ⟨.v 7, .p (.un .not), [.l 6], none⟩])
  (.ite (.v 7)
    (.seq
    (.reg [⟨.v 2, .p .mv, [.k (.m (.s []))], none⟩,
      ⟨.v 3, .p .mv, [.k (.m (.i .i64 2))], none⟩])
    .ret)
    .skip))
  (.seq
  (.seq
  (.reg [⟨.l 8, .p .mv, [.v 0], none⟩,
    ⟨.v 9, .l (.cal 25), [.l 8], none⟩])
  (.ite (.v 9)
    (.seq
    (.reg [⟨.v 2, .p .mv, [.k (.m (.s []))], none⟩,
      ⟨.v 3, .p .mv, [.k (.m (.i .i64 5))], none⟩])
    .ret)
    .skip))
  (.seq
  (.seq
  (.reg [⟨.l 10, .p .mv, [.v 0], none⟩,
    ⟨.l 11, .p (.len false), [.l 10], none⟩,
    ⟨.v 12, .p (.bin .eql), [.l 11, .k (.m (.i .i64 0))], none⟩])
  (.ite (.v 12)
    (.seq
    (.reg [⟨.v 2, .p .mv, [.k (.m (.s [45]))], none⟩,
      ⟨.v 3, .p .mv, [.k (.m (.i .i64 0))], none⟩])
    .ret)
    .skip))
  (.seq
  (.reg [⟨.l 13, .p .mv, [.v 0], none⟩,
    ⟨.l 14, .l (.cal 27), [.l 13], none⟩,
    ⟨.l 15, .l (.cal 26), [.l 14], none⟩,
    ⟨.v 4, .p .mv, [.l 15], none⟩])
  (.seq
  (.seq
  (.reg [⟨.l 16, .p .mv, [.v 4], none⟩,
    ⟨.l 17, .p (.len true), [.l 16], none⟩,
    ⟨.v 18, .p (.bin .gtr), [.l 17, .k (.m (.i .i64 65536))], none⟩])
  (.ite (.v 18)
    (.seq
    (.reg [⟨.v 2, .p .mv, [.k (.m (.s []))], none⟩,
      ⟨.v 3, .p .mv, [.k (.m (.i .i64 6))], none⟩])
    .ret)
    .skip))
  (.seq
  (.reg [⟨.l 19, .p .mv, [.v 4], none⟩,
    ⟨.v 2, .p .mv, [.l 19], none⟩,
    ⟨.v 3, .p .mv, [.k (.m (.i .i64 0))], none⟩])
  .ret)))))))⟩

/- cellular/cellularref33.Code -/
def c10 : F := ⟨1, [.t 2, .t 3],
  (.seq
  (.reg [⟨.v 2, .p .mv, [.k (.m (.s []))], none⟩,
    ⟨.v 3, .p .mv, [.k (.m (.i .i64 0))], none⟩])
  (.seq
  (.seq
  (.reg [⟨.l 5, .p .mv, [.v 0], none⟩,
    ⟨.l 6, .l (.cal 18), [.l 5], none⟩,
    ⟨.v 7, .p (.un .not), [.l 6], none⟩])
  (.ite (.v 7)
    (.seq
    (.reg [⟨.v 2, .p .mv, [.k (.m (.s []))], none⟩,
      ⟨.v 3, .p .mv, [.k (.m (.i .i64 2))], none⟩])
    .ret)
    .skip))
  (.seq
  (.seq
  (.reg [⟨.l 8, .p .mv, [.v 0], none⟩,
    ⟨.v 9, .l (.cal 20), [.l 8], none⟩])
  (.ite (.v 9)
    (.seq
    (.reg [⟨.v 2, .p .mv, [.k (.m (.s []))], none⟩,
      ⟨.v 3, .p .mv, [.k (.m (.i .i64 5))], none⟩])
    .ret)
    .skip))
  (.seq
  (.reg [⟨.l 10, .p .mv, [.v 0], none⟩,
    ⟨.l 11, .l (.cal 17), [.l 10, .k (.m (.i .i64 0))], none⟩,
    ⟨.l 12, .l (.cal 28), [.l 11], none⟩,
    ⟨.v 4, .p .mv, [.l 12], none⟩])
  (.seq
  (.seq
  (.reg [⟨.l 13, .p .mv, [.v 4], none⟩,
    ⟨.l 14, .p (.len true), [.l 13], none⟩,
    ⟨.v 15, .p (.bin .gtr), [.l 14, .k (.m (.i .i64 65536))], none⟩])
  (.ite (.v 15)
    (.seq
    (.reg [⟨.v 2, .p .mv, [.k (.m (.s []))], none⟩,
      ⟨.v 3, .p .mv, [.k (.m (.i .i64 6))], none⟩])
    .ret)
    .skip))
  (.seq
  (.reg [⟨.l 16, .p .mv, [.v 4], none⟩,
    ⟨.v 2, .p .mv, [.l 16], none⟩,
    ⟨.v 3, .p .mv, [.k (.m (.i .i64 0))], none⟩])
  .ret))))))⟩

/- cellular/canon.Decode -/
def c11 : F := ⟨1, [.t 2, .t 3],
  (.seq
  (.reg [⟨.v 2, .p .mv, [.k (.m (.nl 4))], none⟩,
    ⟨.v 3, .p .mv, [.k (.m (.i .i64 0))], none⟩])
  (.seq
  (.seq
  (.reg [⟨.l 10, .p .mv, [.v 0], none⟩,
    ⟨.l 11, .p (.len true), [.l 10], none⟩,
    ⟨.v 12, .p (.bin .gtr), [.l 11, .k (.m (.i .i64 65536))], none⟩])
  (.ite (.v 12)
    (.seq
    (.reg [⟨.v 2, .p .mv, [.k (.m (.nl 4))], none⟩,
      ⟨.v 3, .p .mv, [.k (.m (.i .i64 6))], none⟩])
    .ret)
    .skip))
  (.seq
  (.seq
  (.reg [⟨.l 13, .p .mv, [.v 0], none⟩,
    ⟨.v 14, .p (.bin .eql), [.l 13, .k (.m (.s [45]))], none⟩])
  (.ite (.v 14)
    (.seq
    (.reg [⟨.v 2, .p .mv, [.k (.m (.nl 4))], none⟩,
      ⟨.v 3, .p .mv, [.k (.m (.i .i64 0))], none⟩])
    .ret)
    .skip))
  (.seq
  (.reg [⟨.l 16, .p .mv, [.v 0], none⟩,
    ⟨.l 17, .l (.cal 29), [.l 16], none⟩,
    ⟨.l 15, .p .mv, [.l 17], none⟩,
    ⟨.l 18, .p (.ext 0), [.l 15], none⟩,
    ⟨.l 19, .p (.ext 1), [.l 15], none⟩,
    ⟨.v 4, .p .mv, [.l 18], none⟩,
    ⟨.v 5, .p .mv, [.l 19], none⟩])
  (.seq
  (.seq
  (.reg [⟨.l 20, .p .mv, [.v 5], none⟩,
    ⟨.l 21, .p (.un .not), [.l 20], none⟩,
    ⟨.l 22, .p .mv, [.l 21], none⟩,
    ⟨.l 23, .p .mv, [.v 4], some (.l 22, false)⟩,
    ⟨.l 24, .p (.len false), [.l 23], some (.l 22, false)⟩,
    ⟨.l 25, .p (.bin .eql), [.l 24, .k (.m (.i .i64 0))], some (.l 22, false)⟩,
    ⟨.v 26, .p .pick, [.l 22, .k (.m (.b true)), .l 25], none⟩])
  (.ite (.v 26)
    (.seq
    (.reg [⟨.v 2, .p .mv, [.k (.m (.nl 4))], none⟩,
      ⟨.v 3, .p .mv, [.k (.m (.i .i64 15))], none⟩])
    .ret)
    .skip))
  (.seq
  (.reg [⟨.l 28, .p .mv, [.v 4], none⟩,
    ⟨.l 29, .l (.cal 31), [.l 28], none⟩,
    ⟨.l 30, .l (.cal 30), [.l 29], none⟩,
    ⟨.l 27, .p .mv, [.l 30], none⟩,
    ⟨.l 31, .p (.ext 0), [.l 27], none⟩,
    ⟨.l 32, .p (.ext 1), [.l 27], none⟩,
    ⟨.v 6, .p .mv, [.l 31], none⟩,
    ⟨.v 7, .p .mv, [.l 32], none⟩])
  (.seq
  (.seq
  (.reg [⟨.l 33, .p .mv, [.v 7], none⟩,
    ⟨.v 34, .p (.bin .neq), [.l 33, .k (.m (.i .i64 0))], none⟩])
  (.ite (.v 34)
    (.seq
    (.reg [⟨.v 2, .p .mv, [.k (.m (.nl 4))], none⟩,
      ⟨.v 3, .p .mv, [.k (.m (.i .i64 15))], none⟩])
    .ret)
    .skip))
  (.seq
  (.seq
  (.reg [⟨.l 36, .p .mv, [.v 6], none⟩,
    ⟨.l 37, .l (.cal 9), [.l 36], none⟩,
    ⟨.l 35, .p .mv, [.l 37], none⟩,
    ⟨.l 38, .p (.ext 0), [.l 35], none⟩,
    ⟨.l 39, .p (.ext 1), [.l 35], none⟩,
    ⟨.v 8, .p .mv, [.l 38], none⟩,
    ⟨.v 9, .p .mv, [.l 39], none⟩])
  (.seq
  (.reg [⟨.l 40, .p .mv, [.v 9], none⟩,
    ⟨.l 41, .p (.bin .neq), [.l 40, .k (.m (.i .i64 0))], none⟩,
    ⟨.l 42, .p .mv, [.l 41], none⟩,
    ⟨.l 43, .p .mv, [.v 8], some (.l 42, false)⟩,
    ⟨.l 44, .p .mv, [.v 0], some (.l 42, false)⟩,
    ⟨.l 45, .p (.bin .neq), [.l 43, .l 44], some (.l 42, false)⟩,
    ⟨.v 46, .p .pick, [.l 42, .k (.m (.b true)), .l 45], none⟩])
  (.ite (.v 46)
    (.seq
    (.reg [⟨.v 2, .p .mv, [.k (.m (.nl 4))], none⟩,
      ⟨.v 3, .p .mv, [.k (.m (.i .i64 15))], none⟩])
    .ret)
    .skip)))
  (.seq
  (.reg [⟨.l 47, .p .mv, [.v 6], none⟩,
    ⟨.v 2, .p .mv, [.l 47], none⟩,
    ⟨.v 3, .p .mv, [.k (.m (.i .i64 0))], none⟩])
  .ret)))))))))⟩

/- cellular/cellularref33.Decode -/
def c12_B0 : C :=
  (.seq
  (.seq
  (.reg [⟨.l 66, .p .mv, [.v 10], none⟩,
    ⟨.l 67, .p .mv, [.v 7], none⟩,
    ⟨.v 68, .p (.bin .lss), [.l 66, .l 67], none⟩])
  (.ite (.v 68)
    .skip
    (.ex 2)))
  (.seq
  (.blk 3
  (.reg [⟨.l 71, .p .mv, [.v 4], none⟩,
    ⟨.l 72, .p .mv, [.v 5], none⟩,
    ⟨.l 73, .p .mv, [.v 10], none⟩,
    ⟨.l 74, .p (.bin .add), [.l 72, .l 73], none⟩,
    ⟨.l 75, .p .mv, [.v 6], none⟩,
    ⟨.l 76, .p .mv, [.v 9], none⟩,
    ⟨.l 77, .p (.bin .sub), [.l 76, .k (.m (.i .u8 65))], none⟩,
    ⟨.l 78, .p (.cv .i64), [.l 77], none⟩,
    ⟨.l 79, .p (.bin .add), [.l 78, .k (.m (.i .i64 1))], none⟩,
    ⟨.l 80, .p (.build [.m (.i .i64 0), .m (.i .i64 0), .m (.i .i64 0)] [(0, 1), (1, 1), (2, 1)]), [.l 74, .l 75, .l 79], none⟩,
    ⟨.l 81, .p (.bsl 3 [.m (.i .i64 0), .m (.i .i64 0), .m (.i .i64 0)] 1 [0]), [.l 80], none⟩,
    ⟨.l 82, .l (.app 43 3 24), [.l 71, .l 81], none⟩,
    ⟨.v 4, .p .mv, [.l 82], none⟩]))
  (.reg [⟨.l 69, .p .mv, [.v 10], none⟩,
    ⟨.l 70, .p (.bin .add), [.l 69, .k (.m (.i .i64 1))], none⟩,
    ⟨.v 10, .p .mv, [.l 70], none⟩])))
def c12_L0 : C := .loop [21, 32, 44, 49, 65, 68] c12_B0
def c12_B1 : C :=
  (.seq
  (.seq
  (.reg [⟨.l 18, .p .mv, [.v 8], none⟩,
    ⟨.l 19, .p .mv, [.v 0], none⟩,
    ⟨.l 20, .p (.len true), [.l 19], none⟩,
    ⟨.v 21, .p (.bin .lss), [.l 18, .l 20], none⟩])
  (.ite (.v 21)
    .skip
    (.ex 0)))
  (.seq
  (.blk 1
  (.seq
  (.reg [⟨.l 24, .p .mv, [.v 0], none⟩,
    ⟨.l 25, .p .mv, [.v 8], none⟩,
    ⟨.l 26, .p .ixs, [.l 24, .l 25], none⟩,
    ⟨.v 9, .p .mv, [.l 26], none⟩])
  (.seq
  (.seq
  (.reg [⟨.l 27, .p .mv, [.v 9], none⟩,
    ⟨.l 28, .p (.bin .geq), [.l 27, .k (.m (.i .u8 48))], none⟩,
    ⟨.l 29, .p .mv, [.l 28], none⟩,
    ⟨.l 30, .p .mv, [.v 9], some (.l 29, true)⟩,
    ⟨.l 31, .p (.bin .leq), [.l 30, .k (.m (.i .u8 57))], some (.l 29, true)⟩,
    ⟨.v 32, .p .pick, [.l 29, .l 31, .k (.m (.b false))], none⟩])
  (.ite (.v 32)
    (.seq
    (.reg [⟨.l 33, .p .mv, [.v 7], none⟩,
      ⟨.l 34, .p (.bin .mul), [.k (.m (.i .i64 10)), .l 33], none⟩,
      ⟨.l 35, .p .mv, [.v 9], none⟩,
      ⟨.l 36, .p (.bin .sub), [.l 35, .k (.m (.i .u8 48))], none⟩,
      ⟨.l 37, .p (.cv .i64), [.l 36], none⟩,
      ⟨.l 38, .p (.bin .add), [.l 34, .l 37], none⟩,
      ⟨.v 7, .p .mv, [.l 38], none⟩])
    (.seq
    (.seq
    (.reg [⟨.l 39, .p .mv, [.v 7], none⟩,
      ⟨.v 40, .p (.bin .gtr), [.l 39, .k (.m (.i .i64 2097152))], none⟩])
    (.ite (.v 40)
      (.seq
      (.reg [⟨.v 2, .p .mv, [.k (.m (.nl 4))], none⟩,
        ⟨.v 3, .p .mv, [.k (.m (.i .i64 15))], none⟩])
      .ret)
      .skip))
    (.ex 1)))
    .skip))
  (.seq
  (.reg [⟨.l 41, .p .mv, [.v 7], none⟩,
    ⟨.l 42, .p (.mm true), [.l 41, .k (.m (.i .i64 1))], none⟩,
    ⟨.v 7, .p .mv, [.l 42], none⟩])
  (.seq
  (.seq
  (.reg [⟨.l 43, .p .mv, [.v 9], none⟩,
    ⟨.v 44, .p (.bin .eql), [.l 43, .k (.m (.i .u8 36))], none⟩])
  (.ite (.v 44)
    (.seq
    (.reg [⟨.l 45, .p .mv, [.v 6], none⟩,
      ⟨.l 46, .p .mv, [.v 7], none⟩,
      ⟨.l 47, .p (.bin .add), [.l 45, .l 46], none⟩,
      ⟨.v 6, .p .mv, [.l 47], none⟩])
    (.reg [⟨.v 5, .p .mv, [.k (.m (.i .i64 0))], none⟩]))
    (.seq
    (.reg [⟨.l 48, .p .mv, [.v 9], none⟩,
      ⟨.v 49, .p (.bin .eql), [.l 48, .k (.m (.i .u8 46))], none⟩])
    (.ite (.v 49)
      (.reg [⟨.l 50, .p .mv, [.v 5], none⟩,
        ⟨.l 51, .p .mv, [.v 7], none⟩,
        ⟨.l 52, .p (.bin .add), [.l 50, .l 51], none⟩,
        ⟨.v 5, .p .mv, [.l 52], none⟩])
      (.seq
      (.reg [⟨.l 53, .p .mv, [.v 9], none⟩,
        ⟨.l 54, .p (.bin .geq), [.l 53, .k (.m (.i .u8 65))], none⟩,
        ⟨.l 55, .p .mv, [.l 54], none⟩,
        ⟨.l 56, .p .mv, [.v 9], some (.l 55, true)⟩,
        ⟨.l 57, .p (.bin .leq), [.l 56, .k (.m (.i .u8 71))], some (.l 55, true)⟩,
        ⟨.l 58, .p .pick, [.l 55, .l 57, .k (.m (.b false))], none⟩,
        ⟨.l 59, .p .mv, [.l 58], none⟩,
        ⟨.l 60, .p .mv, [.v 4], some (.l 59, true)⟩,
        ⟨.l 61, .p (.len false), [.l 60], some (.l 59, true)⟩,
        ⟨.l 62, .p .mv, [.v 7], some (.l 59, true)⟩,
        ⟨.l 63, .p (.bin .add), [.l 61, .l 62], some (.l 59, true)⟩,
        ⟨.l 64, .p (.bin .leq), [.l 63, .k (.m (.i .i64 5000))], some (.l 59, true)⟩,
        ⟨.v 65, .p .pick, [.l 59, .l 64, .k (.m (.b false))], none⟩])
      (.ite (.v 65)
        (.seq
        (.seq
        (.reg [⟨.v 10, .p .mv, [.k (.m (.i .i64 0))], none⟩])
        (.blk 2
        c12_L0))
        (.reg [⟨.l 83, .p .mv, [.v 5], none⟩,
          ⟨.l 84, .p .mv, [.v 7], none⟩,
          ⟨.l 85, .p (.bin .add), [.l 83, .l 84], none⟩,
          ⟨.v 5, .p .mv, [.l 85], none⟩]))
        (.seq
        (.reg [⟨.v 2, .p .mv, [.k (.m (.nl 4))], none⟩,
          ⟨.v 3, .p .mv, [.k (.m (.i .i64 15))], none⟩])
        .ret)))))))
  (.seq
  (.seq
  (.reg [⟨.l 86, .p .mv, [.v 5], none⟩,
    ⟨.l 87, .p (.bin .gtr), [.l 86, .k (.m (.i .i64 2097152))], none⟩,
    ⟨.l 88, .p .mv, [.l 87], none⟩,
    ⟨.l 89, .p .mv, [.v 6], some (.l 88, false)⟩,
    ⟨.l 90, .p (.bin .gtr), [.l 89, .k (.m (.i .i64 2097152))], some (.l 88, false)⟩,
    ⟨.v 91, .p .pick, [.l 88, .k (.m (.b true)), .l 90], none⟩])
  (.ite (.v 91)
    (.seq
    (.reg [⟨.v 2, .p .mv, [.k (.m (.nl 4))], none⟩,
      ⟨.v 3, .p .mv, [.k (.m (.i .i64 15))], none⟩])
    .ret)
    .skip))
  (.reg [⟨.v 7, .p .mv, [.k (.m (.i .i64 0))], none⟩])))))))
  (.reg [⟨.l 22, .p .mv, [.v 8], none⟩,
    ⟨.l 23, .p (.bin .add), [.l 22, .k (.m (.i .i64 1))], none⟩,
    ⟨.v 8, .p .mv, [.l 23], none⟩])))
def c12_L1 : C := .loop [2, 3, 9, 10, 15, 17, 21, 32, 40, 44, 49, 68, 91] c12_B1
def c12 : F := ⟨1, [.t 2, .t 3],
  (.seq
  (.reg [⟨.v 2, .p .mv, [.k (.m (.nl 4))], none⟩,
    ⟨.v 3, .p .mv, [.k (.m (.i .i64 0))], none⟩])
  (.seq
  (.seq
  (.reg [⟨.l 13, .p .mv, [.v 0], none⟩,
    ⟨.l 14, .p (.len true), [.l 13], none⟩,
    ⟨.v 15, .p (.bin .gtr), [.l 14, .k (.m (.i .i64 65536))], none⟩])
  (.ite (.v 15)
    (.seq
    (.reg [⟨.v 2, .p .mv, [.k (.m (.nl 4))], none⟩,
      ⟨.v 3, .p .mv, [.k (.m (.i .i64 6))], none⟩])
    .ret)
    .skip))
  (.seq
  (.seq
  (.reg [⟨.l 16, .p .mv, [.v 0], none⟩,
    ⟨.v 17, .p (.bin .eql), [.l 16, .k (.m (.s [45]))], none⟩])
  (.ite (.v 17)
    (.seq
    (.reg [⟨.v 2, .p .mv, [.k (.m (.nl 4))], none⟩,
      ⟨.v 3, .p .mv, [.k (.m (.i .i64 0))], none⟩])
    .ret)
    .skip))
  (.seq
  (.reg [⟨.v 4, .p .mv, [.k (.m (.nl 4))], none⟩])
  (.seq
  (.reg [⟨.v 5, .p .mv, [.k (.m (.i .i64 0))], none⟩,
    ⟨.v 6, .p .mv, [.k (.m (.i .i64 0))], none⟩,
    ⟨.v 7, .p .mv, [.k (.m (.i .i64 0))], none⟩])
  (.seq
  (.seq
  (.reg [⟨.v 8, .p .mv, [.k (.m (.i .i64 0))], none⟩])
  (.blk 0
  c12_L1))
  (.seq
  (.reg [⟨.l 93, .p .mv, [.v 4], none⟩,
    ⟨.l 94, .l (.cal 10), [.l 93], none⟩,
    ⟨.l 92, .p .mv, [.l 94], none⟩,
    ⟨.l 95, .p (.ext 0), [.l 92], none⟩,
    ⟨.l 96, .p (.ext 1), [.l 92], none⟩,
    ⟨.v 11, .p .mv, [.l 95], none⟩,
    ⟨.v 12, .p .mv, [.l 96], none⟩])
  (.seq
  (.seq
  (.reg [⟨.l 97, .p .mv, [.v 12], none⟩,
    ⟨.l 98, .p (.bin .neq), [.l 97, .k (.m (.i .i64 0))], none⟩,
    ⟨.l 99, .p .mv, [.l 98], none⟩,
    ⟨.l 100, .p .mv, [.v 11], some (.l 99, false)⟩,
    ⟨.l 101, .p .mv, [.v 0], some (.l 99, false)⟩,
    ⟨.l 102, .p (.bin .neq), [.l 100, .l 101], some (.l 99, false)⟩,
    ⟨.v 103, .p .pick, [.l 99, .k (.m (.b true)), .l 102], none⟩])
  (.ite (.v 103)
    (.seq
    (.reg [⟨.v 2, .p .mv, [.k (.m (.nl 4))], none⟩,
      ⟨.v 3, .p .mv, [.k (.m (.i .i64 15))], none⟩])
    .ret)
    .skip))
  (.seq
  (.reg [⟨.l 104, .p .mv, [.v 4], none⟩,
    ⟨.l 105, .l (.cal 17), [.l 104, .k (.m (.i .i64 0))], none⟩,
    ⟨.v 2, .p .mv, [.l 105], none⟩,
    ⟨.v 3, .p .mv, [.k (.m (.i .i64 0))], none⟩])
  .ret)))))))))⟩

/- cellular/cellularref05.Same -/
def c13 : F := ⟨2, [.t 4],
  (.seq
  (.reg [⟨.v 4, .p .mv, [.k (.m (.b false))], none⟩])
  (.seq
  (.reg [⟨.l 5, .p .mv, [.v 0], none⟩,
    ⟨.l 6, .p .mv, [.v 1], none⟩,
    ⟨.l 7, .l (.cal 32), [.l 5, .l 6], none⟩,
    ⟨.l 8, .p (.bin .eql), [.l 7, .k (.m (.i .i64 0))], none⟩,
    ⟨.v 4, .p .mv, [.l 8], none⟩])
  .ret))⟩

/- cellular/canon.Form -/
def c14_A0 : C :=
  (.reg [⟨.v 8, .p .mv, [.v 21], none⟩])
def c14_R0 : C :=
  (.blk 1
  (.seq
  (.reg [⟨.l 22, .p .mv, [.v 8], none⟩,
    ⟨.l 23, .r (.ld false 1), [.v 6], none⟩,
    ⟨.l 24, .l (.cal 35), [.l 22, .l 23], none⟩,
    ⟨.v 25, .p (.bin .lss), [.l 24, .k (.m (.i .i64 0))], none⟩])
  (.ite (.v 25)
    (.reg [⟨.l 26, .p .mv, [.v 8], none⟩,
      ⟨.no, .l (.st 1), [.v 6, .l 26], none⟩])
    .skip)))
def c14 : F := ⟨2, [.t 4, .t 5],
  (.seq
  (.reg [⟨.v 4, .p .mv, [.k (.m (.nl 4))], none⟩,
    ⟨.v 5, .p .mv, [.k (.m (.i .i64 0))], none⟩])
  (.seq
  (.seq
  (.reg [⟨.l 9, .p .mv, [.v 0], none⟩,
    ⟨.l 10, .l (.cal 24), [.l 9], none⟩,
    ⟨.v 11, .p (.un .not), [.l 10], none⟩])
  (.ite (.v 11)
    (.seq
    (.reg [⟨.v 4, .p .mv, [.k (.m (.nl 4))], none⟩,
      ⟨.v 5, .p .mv, [.k (.m (.i .i64 2))], none⟩])
    .ret)
    .skip))
  (.seq
  (.seq
  (.reg [⟨.l 12, .p .mv, [.v 0], none⟩,
    ⟨.v 13, .l (.cal 25), [.l 12], none⟩])
  (.ite (.v 13)
    (.seq
    (.reg [⟨.v 4, .p .mv, [.k (.m (.nl 4))], none⟩,
      ⟨.v 5, .p .mv, [.k (.m (.i .i64 5))], none⟩])
    .ret)
    .skip))
  (.seq
  (.reg [⟨.l 14, .p .mv, [.v 0], none⟩,
    ⟨.l 15, .l (.cal 27), [.l 14], none⟩,
    ⟨.v 6, .l (.als 23 1 1 [.m (.nl 4)]), [], none⟩,
    ⟨.no, .l (.st 1), [.v 6, .l 15], none⟩])
  (.seq
  (.seq
  (.reg [⟨.l 16, .p .mv, [.v 0], none⟩,
    ⟨.l 17, .p .mv, [.v 1], none⟩,
    ⟨.l 18, .l (.cal 34), [.l 17], none⟩,
    ⟨.v 19, .l (.cal 33), [.l 16, .l 18], none⟩])
  (.blk 0
  (.rng (.v 19) [0, 1, 4, 5, 11, 13, 19] [20, 21] c14_A0 c14_R0)))
  (.seq
  (.reg [⟨.l 27, .r (.ld false 1), [.v 6], none⟩,
    ⟨.v 4, .p .mv, [.l 27], none⟩,
    ⟨.v 5, .p .mv, [.k (.m (.i .i64 0))], none⟩])
  .ret))))))⟩

/- cellular/cellularref04.Group -/
def c15_B0 : C :=
  (.seq
  (.seq
  (.reg [⟨.l 12, .p .mv, [.v 4], none⟩,
    ⟨.l 13, .p .mv, [.v 0], none⟩,
    ⟨.l 14, .p (.len false), [.l 13], none⟩,
    ⟨.v 15, .p (.bin .lss), [.l 12, .l 14], none⟩])
  (.ite (.v 15)
    .skip
    (.ex 0)))
  (.seq
  (.blk 1
  (.seq
  (.reg [⟨.l 18, .p .mv, [.v 3], none⟩,
    ⟨.l 19, .p .mv, [.v 0], none⟩,
    ⟨.l 20, .p .mv, [.v 4], none⟩,
    ⟨.l 21, .p (.ixa 1), [.l 19, .l 20], none⟩,
    ⟨.l 22, .r (.ld false 1), [.l 21], none⟩,
    ⟨.l 23, .l (.cal 37), [.l 22], none⟩,
    ⟨.l 24, .l (.cal 36), [.l 18, .l 23], none⟩,
    ⟨.v 25, .p (.un .not), [.l 24], none⟩])
  (.ite (.v 25)
    (.reg [⟨.l 26, .p .mv, [.v 3], none⟩,
      ⟨.l 27, .p .mv, [.v 0], none⟩,
      ⟨.l 28, .p .mv, [.v 4], none⟩,
      ⟨.l 29, .p (.ixa 1), [.l 27, .l 28], none⟩,
      ⟨.l 30, .r (.ld false 1), [.l 29], none⟩,
      ⟨.l 31, .l (.cal 37), [.l 30], none⟩,
      ⟨.l 32, .p (.bsl 1 [.m (.i .i64 0)] 1 [0]), [.l 31], none⟩,
      ⟨.l 33, .l (.app 3 1 8), [.l 26, .l 32], none⟩,
      ⟨.v 3, .p .mv, [.l 33], none⟩])
    .skip)))
  (.reg [⟨.l 16, .p .mv, [.v 4], none⟩,
    ⟨.l 17, .p (.bin .add), [.l 16, .k (.m (.i .i64 1))], none⟩,
    ⟨.v 4, .p .mv, [.l 17], none⟩])))
def c15_L0 : C := .loop [2, 15, 25] c15_B0
def c15_B1 : C :=
  (.seq
  (.seq
  (.reg [⟨.l 45, .p .mv, [.v 7], none⟩,
    ⟨.l 46, .p .mv, [.v 3], none⟩,
    ⟨.l 47, .p (.len false), [.l 46], none⟩,
    ⟨.l 48, .p (.bin .lss), [.l 45, .l 47], none⟩,
    ⟨.l 49, .p .mv, [.l 48], none⟩,
    ⟨.l 50, .p .mv, [.v 5], some (.l 49, true)⟩,
    ⟨.l 51, .p (.un .not), [.l 50], some (.l 49, true)⟩,
    ⟨.v 52, .p .pick, [.l 49, .l 51, .k (.m (.b false))], none⟩])
  (.ite (.v 52)
    .skip
    (.ex 6)))
  (.seq
  (.blk 7
  (.seq
  (.reg [⟨.l 55, .p .mv, [.v 3], none⟩,
    ⟨.l 56, .p .mv, [.v 6], none⟩,
    ⟨.l 57, .p (.ixa 1), [.l 55, .l 56], none⟩,
    ⟨.l 58, .r (.ld false 1), [.l 57], none⟩,
    ⟨.l 59, .p .mv, [.v 3], none⟩,
    ⟨.l 60, .p .mv, [.v 7], none⟩,
    ⟨.l 61, .p (.ixa 1), [.l 59, .l 60], none⟩,
    ⟨.l 62, .r (.ld false 1), [.l 61], none⟩,
    ⟨.l 63, .l (.cal 38), [.l 58, .l 62], none⟩,
    ⟨.v 8, .p .mv, [.l 63], none⟩])
  (.seq
  (.reg [⟨.l 64, .p .mv, [.v 3], none⟩,
    ⟨.l 65, .p .mv, [.v 8], none⟩,
    ⟨.l 66, .l (.cal 36), [.l 64, .l 65], none⟩,
    ⟨.v 67, .p (.un .not), [.l 66], none⟩])
  (.ite (.v 67)
    (.seq
    (.reg [⟨.l 68, .p .mv, [.v 3], none⟩,
      ⟨.l 69, .p .mv, [.v 8], none⟩,
      ⟨.l 70, .p (.bsl 1 [.m (.i .i64 0)] 1 [0]), [.l 69], none⟩,
      ⟨.l 71, .l (.app 3 1 8), [.l 68, .l 70], none⟩,
      ⟨.v 3, .p .mv, [.l 71], none⟩])
    (.reg [⟨.v 5, .p .mv, [.k (.m (.b true))], none⟩]))
    .skip))))
  (.reg [⟨.l 53, .p .mv, [.v 7], none⟩,
    ⟨.l 54, .p (.bin .add), [.l 53, .k (.m (.i .i64 1))], none⟩,
    ⟨.v 7, .p .mv, [.l 54], none⟩])))
def c15_L1 : C := .loop [8, 42, 52, 67] c15_B1
def c15_B2 : C :=
  (.seq
  (.seq
  (.reg [⟨.l 35, .p .mv, [.v 6], none⟩,
    ⟨.l 36, .p .mv, [.v 3], none⟩,
    ⟨.l 37, .p (.len false), [.l 36], none⟩,
    ⟨.l 38, .p (.bin .lss), [.l 35, .l 37], none⟩,
    ⟨.l 39, .p .mv, [.l 38], none⟩,
    ⟨.l 40, .p .mv, [.v 5], some (.l 39, true)⟩,
    ⟨.l 41, .p (.un .not), [.l 40], some (.l 39, true)⟩,
    ⟨.v 42, .p .pick, [.l 39, .l 41, .k (.m (.b false))], none⟩])
  (.ite (.v 42)
    .skip
    (.ex 4)))
  (.seq
  (.blk 5
  (.seq
  (.reg [⟨.v 7, .p .mv, [.k (.m (.i .i64 0))], none⟩])
  (.blk 6
  c15_L1)))
  (.reg [⟨.l 43, .p .mv, [.v 6], none⟩,
    ⟨.l 44, .p (.bin .add), [.l 43, .k (.m (.i .i64 1))], none⟩,
    ⟨.v 6, .p .mv, [.l 44], none⟩])))
def c15_L2 : C := .loop [7, 34, 52] c15_B2
def c15_B3 : C :=
  (.seq
  (.seq
  (.reg [⟨.v 34, .p .mv, [.v 5], none⟩])
  (.ite (.v 34)
    .skip
    (.ex 2)))
  (.blk 3
  (.seq
  (.reg [⟨.v 5, .p .mv, [.k (.m (.b false))], none⟩])
  (.seq
  (.reg [⟨.v 6, .p .mv, [.k (.m (.i .i64 0))], none⟩])
  (.blk 4
  c15_L2)))))
def c15_L3 : C := .loop [0, 4, 6, 15, 42] c15_B3
def c15_B4 : C :=
  (.seq
  (.seq
  (.reg [⟨.l 72, .p .mv, [.v 10], none⟩,
    ⟨.v 73, .p (.bin .lss), [.l 72, .k (.m (.i .i64 8))], none⟩])
  (.ite (.v 73)
    .skip
    (.ex 8)))
  (.seq
  (.blk 9
  (.seq
  (.reg [⟨.l 76, .p .mv, [.v 3], none⟩,
    ⟨.l 77, .p .mv, [.v 10], none⟩,
    ⟨.v 78, .l (.cal 36), [.l 76, .l 77], none⟩])
  (.ite (.v 78)
    (.reg [⟨.l 79, .p .mv, [.v 9], none⟩,
      ⟨.l 80, .p .mv, [.v 10], none⟩,
      ⟨.l 81, .p (.bsl 1 [.m (.i .i64 0)] 1 [0]), [.l 80], none⟩,
      ⟨.l 82, .l (.app 3 1 8), [.l 79, .l 81], none⟩,
      ⟨.v 9, .p .mv, [.l 82], none⟩])
    .skip)))
  (.reg [⟨.l 74, .p .mv, [.v 10], none⟩,
    ⟨.l 75, .p (.bin .add), [.l 74, .k (.m (.i .i64 1))], none⟩,
    ⟨.v 10, .p .mv, [.l 75], none⟩])))
def c15_L4 : C := .loop [5, 34, 73, 78] c15_B4
def c15 : F := ⟨1, [.t 2],
  (.seq
  (.reg [⟨.v 2, .p .mv, [.k (.m (.nl 4))], none⟩])
  (.seq
  (.reg [⟨.l 11, .p (.bsl 1 [.m (.i .i64 0)] 1 [0]), [.k (.m (.i .i64 0))], none⟩,
    ⟨.v 3, .p .mv, [.l 11], none⟩])
  (.seq
  (.seq
  (.reg [⟨.v 4, .p .mv, [.k (.m (.i .i64 0))], none⟩])
  (.blk 0
  c15_L0))
  (.seq
  (.seq
  (.reg [⟨.v 5, .p .mv, [.k (.m (.b true))], none⟩])
  (.blk 2
  c15_L3))
  (.seq
  (.reg [⟨.v 9, .p .mv, [.k (.m (.nl 4))], none⟩])
  (.seq
  (.seq
  (.reg [⟨.v 10, .p .mv, [.k (.m (.i .i64 0))], none⟩])
  (.blk 8
  c15_L4))
  (.seq
  (.reg [⟨.l 83, .p .mv, [.v 9], none⟩,
    ⟨.v 2, .p .mv, [.l 83], none⟩])
  .ret)))))))⟩

/- cellular/cellularref05.Shift -/
def c16_B0 : C :=
  (.seq
  (.seq
  (.reg [⟨.l 27, .p .mv, [.v 9], none⟩,
    ⟨.l 28, .p .mv, [.v 0], none⟩,
    ⟨.l 29, .p (.len false), [.l 28], none⟩,
    ⟨.v 30, .p (.bin .lss), [.l 27, .l 29], none⟩])
  (.ite (.v 30)
    .skip
    (.ex 0)))
  (.seq
  (.blk 1
  (.seq
  (.seq
  (.reg [⟨.l 33, .p .mv, [.v 0], none⟩,
    ⟨.l 34, .p .mv, [.v 9], none⟩,
    ⟨.l 35, .p (.ixa 3), [.l 33, .l 34], none⟩,
    ⟨.l 36, .p (.fad 0), [.l 35], none⟩,
    ⟨.l 37, .r (.ld false 1), [.l 36], none⟩,
    ⟨.l 38, .p .mv, [.v 1], none⟩,
    ⟨.l 39, .p (.bin .add), [.l 37, .l 38], none⟩,
    ⟨.l 40, .p .mv, [.v 0], none⟩,
    ⟨.l 41, .p .mv, [.v 9], none⟩,
    ⟨.l 42, .p (.ixa 3), [.l 40, .l 41], none⟩,
    ⟨.l 43, .p (.fad 1), [.l 42], none⟩,
    ⟨.l 44, .r (.ld false 1), [.l 43], none⟩,
    ⟨.l 45, .p .mv, [.v 2], none⟩,
    ⟨.l 46, .p (.bin .add), [.l 44, .l 45], none⟩,
    ⟨.l 47, .l (.cal 39), [.l 39, .l 46], none⟩,
    ⟨.v 48, .p (.un .not), [.l 47], none⟩])
  (.ite (.v 48)
    (.seq
    (.reg [⟨.v 6, .p .mv, [.k (.m (.nl 4))], none⟩,
      ⟨.v 7, .p .mv, [.k (.m (.i .i64 5))], none⟩])
    .ret)
    .skip))
  (.reg [⟨.l 49, .p .mv, [.v 8], none⟩,
    ⟨.l 50, .p .mv, [.v 0], none⟩,
    ⟨.l 51, .p .mv, [.v 9], none⟩,
    ⟨.l 52, .p (.ixa 3), [.l 50, .l 51], none⟩,
    ⟨.l 53, .p (.fad 0), [.l 52], none⟩,
    ⟨.l 54, .r (.ld false 1), [.l 53], none⟩,
    ⟨.l 55, .p .mv, [.v 1], none⟩,
    ⟨.l 56, .p (.bin .add), [.l 54, .l 55], none⟩,
    ⟨.l 57, .p .mv, [.v 0], none⟩,
    ⟨.l 58, .p .mv, [.v 9], none⟩,
    ⟨.l 59, .p (.ixa 3), [.l 57, .l 58], none⟩,
    ⟨.l 60, .p (.fad 1), [.l 59], none⟩,
    ⟨.l 61, .r (.ld false 1), [.l 60], none⟩,
    ⟨.l 62, .p .mv, [.v 2], none⟩,
    ⟨.l 63, .p (.bin .add), [.l 61, .l 62], none⟩,
    ⟨.l 64, .p .mv, [.v 0], none⟩,
    ⟨.l 65, .p .mv, [.v 9], none⟩,
    ⟨.l 66, .p (.ixa 3), [.l 64, .l 65], none⟩,
    ⟨.l 67, .p (.fad 2), [.l 66], none⟩,
    ⟨.l 68, .r (.ld false 1), [.l 67], none⟩,
    ⟨.l 69, .p (.build [.m (.i .i64 0), .m (.i .i64 0), .m (.i .i64 0)] [(0, 1), (1, 1), (2, 1)]), [.l 56, .l 63, .l 68], none⟩,
    ⟨.l 70, .p (.bsl 3 [.m (.i .i64 0), .m (.i .i64 0), .m (.i .i64 0)] 1 [0]), [.l 69], none⟩,
    ⟨.l 71, .l (.app 43 3 24), [.l 49, .l 70], none⟩,
    ⟨.v 8, .p .mv, [.l 71], none⟩])))
  (.reg [⟨.l 31, .p .mv, [.v 9], none⟩,
    ⟨.l 32, .p (.bin .add), [.l 31, .k (.m (.i .i64 1))], none⟩,
    ⟨.v 9, .p .mv, [.l 32], none⟩])))
def c16_L0 : C := .loop [6, 7, 12, 26, 30, 48] c16_B0
def c16 : F := ⟨3, [.t 6, .t 7],
  (.seq
  (.reg [⟨.v 6, .p .mv, [.k (.m (.nl 4))], none⟩,
    ⟨.v 7, .p .mv, [.k (.m (.i .i64 0))], none⟩])
  (.seq
  (.seq
  (.reg [⟨.l 10, .p .mv, [.v 0], none⟩,
    ⟨.l 11, .l (.cal 18), [.l 10], none⟩,
    ⟨.v 12, .p (.un .not), [.l 11], none⟩])
  (.ite (.v 12)
    (.seq
    (.reg [⟨.v 6, .p .mv, [.k (.m (.nl 4))], none⟩,
      ⟨.v 7, .p .mv, [.k (.m (.i .i64 2))], none⟩])
    .ret)
    .skip))
  (.seq
  (.seq
  (.reg [⟨.l 13, .p .mv, [.v 1], none⟩,
    ⟨.l 14, .p (.bin .lss), [.l 13, .k (.m (.i .i64 (-2097152)))], none⟩,
    ⟨.l 15, .p .mv, [.l 14], none⟩,
    ⟨.l 16, .p .mv, [.v 1], some (.l 15, false)⟩,
    ⟨.l 17, .p (.bin .gtr), [.l 16, .k (.m (.i .i64 2097152))], some (.l 15, false)⟩,
    ⟨.l 18, .p .pick, [.l 15, .k (.m (.b true)), .l 17], none⟩,
    ⟨.l 19, .p .mv, [.l 18], none⟩,
    ⟨.l 20, .p .mv, [.v 2], some (.l 19, false)⟩,
    ⟨.l 21, .p (.bin .lss), [.l 20, .k (.m (.i .i64 (-2097152)))], some (.l 19, false)⟩,
    ⟨.l 22, .p .pick, [.l 19, .k (.m (.b true)), .l 21], none⟩,
    ⟨.l 23, .p .mv, [.l 22], none⟩,
    ⟨.l 24, .p .mv, [.v 2], some (.l 23, false)⟩,
    ⟨.l 25, .p (.bin .gtr), [.l 24, .k (.m (.i .i64 2097152))], some (.l 23, false)⟩,
    ⟨.v 26, .p .pick, [.l 23, .k (.m (.b true)), .l 25], none⟩])
  (.ite (.v 26)
    (.seq
    (.reg [⟨.v 6, .p .mv, [.k (.m (.nl 4))], none⟩,
      ⟨.v 7, .p .mv, [.k (.m (.i .i64 5))], none⟩])
    .ret)
    .skip))
  (.seq
  (.reg [⟨.v 8, .p .mv, [.k (.m (.nl 4))], none⟩])
  (.seq
  (.seq
  (.reg [⟨.v 9, .p .mv, [.k (.m (.i .i64 0))], none⟩])
  (.blk 0
  c16_L0))
  (.seq
  (.reg [⟨.l 72, .p .mv, [.v 8], none⟩,
    ⟨.v 6, .p .mv, [.l 72], none⟩,
    ⟨.v 7, .p .mv, [.k (.m (.i .i64 0))], none⟩])
  .ret))))))⟩

/- cellular/cellularref33.Image -/
def c17_B0 : C :=
  (.seq
  (.seq
  (.reg [⟨.l 13, .p .mv, [.v 8], none⟩,
    ⟨.l 14, .p .mv, [.v 0], none⟩,
    ⟨.l 15, .p (.len false), [.l 14], none⟩,
    ⟨.v 16, .p (.bin .lss), [.l 13, .l 15], none⟩])
  (.ite (.v 16)
    .skip
    (.ex 0)))
  (.seq
  (.blk 1
  (.seq
  (.reg [⟨.l 19, .p .mv, [.v 1], none⟩,
    ⟨.l 20, .p .mv, [.v 0], none⟩,
    ⟨.l 21, .p .mv, [.v 8], none⟩,
    ⟨.l 22, .p (.ixa 3), [.l 20, .l 21], none⟩,
    ⟨.l 23, .p (.fad 0), [.l 22], none⟩,
    ⟨.l 24, .r (.ld false 1), [.l 23], none⟩,
    ⟨.l 25, .p .mv, [.v 0], none⟩,
    ⟨.l 26, .p .mv, [.v 8], none⟩,
    ⟨.l 27, .p (.ixa 3), [.l 25, .l 26], none⟩,
    ⟨.l 28, .p (.fad 1), [.l 27], none⟩,
    ⟨.l 29, .r (.ld false 1), [.l 28], none⟩,
    ⟨.l 30, .p (.build [.m (.i .i64 0), .m (.i .i64 0)] [(0, 1), (1, 1)]), [.l 24, .l 29], none⟩,
    ⟨.l 31, .l (.cal 40), [.l 19, .l 30], none⟩,
    ⟨.v 9, .l (.als 61 2 1 [.m (.i .i64 0), .m (.i .i64 0)]), [], none⟩,
    ⟨.no, .l (.st 2), [.v 9, .l 31], none⟩])
  (.seq
  (.seq
  (.reg [⟨.l 32, .p .mv, [.v 8], none⟩,
    ⟨.l 33, .p (.bin .eql), [.l 32, .k (.m (.i .i64 0))], none⟩,
    ⟨.l 34, .p .mv, [.l 33], none⟩,
    ⟨.l 35, .p (.fad 0), [.v 9], some (.l 34, false)⟩,
    ⟨.l 36, .r (.ld false 1), [.l 35], some (.l 34, false)⟩,
    ⟨.l 37, .p .mv, [.v 5], some (.l 34, false)⟩,
    ⟨.l 38, .p (.bin .lss), [.l 36, .l 37], some (.l 34, false)⟩,
    ⟨.v 39, .p .pick, [.l 34, .k (.m (.b true)), .l 38], none⟩])
  (.ite (.v 39)
    (.reg [⟨.l 40, .p (.fad 0), [.v 9], none⟩,
      ⟨.l 41, .r (.ld false 1), [.l 40], none⟩,
      ⟨.v 5, .p .mv, [.l 41], none⟩])
    .skip))
  (.seq
  (.seq
  (.reg [⟨.l 42, .p .mv, [.v 8], none⟩,
    ⟨.l 43, .p (.bin .eql), [.l 42, .k (.m (.i .i64 0))], none⟩,
    ⟨.l 44, .p .mv, [.l 43], none⟩,
    ⟨.l 45, .p (.fad 1), [.v 9], some (.l 44, false)⟩,
    ⟨.l 46, .r (.ld false 1), [.l 45], some (.l 44, false)⟩,
    ⟨.l 47, .p .mv, [.v 6], some (.l 44, false)⟩,
    ⟨.l 48, .p (.bin .lss), [.l 46, .l 47], some (.l 44, false)⟩,
    ⟨.v 49, .p .pick, [.l 44, .k (.m (.b true)), .l 48], none⟩])
  (.ite (.v 49)
    (.reg [⟨.l 50, .p (.fad 1), [.v 9], none⟩,
      ⟨.l 51, .r (.ld false 1), [.l 50], none⟩,
      ⟨.v 6, .p .mv, [.l 51], none⟩])
    .skip))
  (.reg [⟨.l 52, .p .mv, [.v 7], none⟩,
    ⟨.l 53, .p (.fad 0), [.v 9], none⟩,
    ⟨.l 54, .r (.ld false 1), [.l 53], none⟩,
    ⟨.l 55, .p (.fad 1), [.v 9], none⟩,
    ⟨.l 56, .r (.ld false 1), [.l 55], none⟩,
    ⟨.l 57, .p .mv, [.v 0], none⟩,
    ⟨.l 58, .p .mv, [.v 8], none⟩,
    ⟨.l 59, .p (.ixa 3), [.l 57, .l 58], none⟩,
    ⟨.l 60, .p (.fad 2), [.l 59], none⟩,
    ⟨.l 61, .r (.ld false 1), [.l 60], none⟩,
    ⟨.l 62, .p (.build [.m (.i .i64 0), .m (.i .i64 0), .m (.i .i64 0)] [(0, 1), (1, 1), (2, 1)]), [.l 54, .l 56, .l 61], none⟩,
    ⟨.l 63, .p (.bsl 3 [.m (.i .i64 0), .m (.i .i64 0), .m (.i .i64 0)] 1 [0]), [.l 62], none⟩,
    ⟨.l 64, .l (.app 43 3 24), [.l 52, .l 63], none⟩,
    ⟨.v 7, .p .mv, [.l 64], none⟩])))))
  (.reg [⟨.l 17, .p .mv, [.v 8], none⟩,
    ⟨.l 18, .p (.bin .add), [.l 17, .k (.m (.i .i64 1))], none⟩,
    ⟨.v 8, .p .mv, [.l 18], none⟩])))
def c17_L0 : C := .loop [4, 9, 16, 39, 49] c17_B0
def c17_B1 : C :=
  (.seq
  (.seq
  (.reg [⟨.l 65, .p .mv, [.v 10], none⟩,
    ⟨.l 66, .p .mv, [.v 7], none⟩,
    ⟨.l 67, .p (.len false), [.l 66], none⟩,
    ⟨.v 68, .p (.bin .lss), [.l 65, .l 67], none⟩])
  (.ite (.v 68)
    .skip
    (.ex 2)))
  (.seq
  (.blk 3
  (.seq
  (.reg [⟨.l 71, .p .mv, [.v 7], none⟩,
    ⟨.l 72, .p .mv, [.v 10], none⟩,
    ⟨.l 73, .p .mv, [.v 7], none⟩,
    ⟨.l 74, .p .mv, [.v 10], none⟩,
    ⟨.l 75, .p (.ixa 3), [.l 73, .l 74], none⟩,
    ⟨.l 76, .p (.fad 0), [.l 75], none⟩,
    ⟨.l 77, .r (.ld false 1), [.l 76], none⟩,
    ⟨.l 78, .p .mv, [.v 5], none⟩,
    ⟨.l 79, .p (.bin .sub), [.l 77, .l 78], none⟩,
    ⟨.l 80, .p (.ixa 3), [.l 71, .l 72], none⟩,
    ⟨.l 81, .p (.fad 0), [.l 80], none⟩,
    ⟨.no, .l (.st 1), [.l 81, .l 79], none⟩])
  (.reg [⟨.l 82, .p .mv, [.v 7], none⟩,
    ⟨.l 83, .p .mv, [.v 10], none⟩,
    ⟨.l 84, .p .mv, [.v 7], none⟩,
    ⟨.l 85, .p .mv, [.v 10], none⟩,
    ⟨.l 86, .p (.ixa 3), [.l 84, .l 85], none⟩,
    ⟨.l 87, .p (.fad 1), [.l 86], none⟩,
    ⟨.l 88, .r (.ld false 1), [.l 87], none⟩,
    ⟨.l 89, .p .mv, [.v 6], none⟩,
    ⟨.l 90, .p (.bin .sub), [.l 88, .l 89], none⟩,
    ⟨.l 91, .p (.ixa 3), [.l 82, .l 83], none⟩,
    ⟨.l 92, .p (.fad 1), [.l 91], none⟩,
    ⟨.no, .l (.st 1), [.l 92, .l 90], none⟩])))
  (.reg [⟨.l 69, .p .mv, [.v 10], none⟩,
    ⟨.l 70, .p (.bin .add), [.l 69, .k (.m (.i .i64 1))], none⟩,
    ⟨.v 10, .p .mv, [.l 70], none⟩])))
def c17_L1 : C := .loop [0, 1, 8, 16, 68] c17_B1
def c17 : F := ⟨2, [.t 4],
  (.seq
  (.reg [⟨.v 4, .p .mv, [.k (.m (.nl 4))], none⟩])
  (.seq
  (.reg [⟨.v 5, .p .mv, [.k (.m (.i .i64 0))], none⟩,
    ⟨.v 6, .p .mv, [.k (.m (.i .i64 0))], none⟩])
  (.seq
  (.reg [⟨.v 7, .p .mv, [.k (.m (.nl 4))], none⟩])
  (.seq
  (.seq
  (.reg [⟨.v 8, .p .mv, [.k (.m (.i .i64 0))], none⟩])
  (.blk 0
  c17_L0))
  (.seq
  (.seq
  (.reg [⟨.v 10, .p .mv, [.k (.m (.i .i64 0))], none⟩])
  (.blk 2
  c17_L1))
  (.seq
  (.reg [⟨.l 94, .p .mv, [.v 7], none⟩,
    ⟨.l 95, .l (.cal 41), [.l 94], none⟩,
    ⟨.l 93, .p .mv, [.l 95], none⟩,
    ⟨.l 96, .p (.ext 0), [.l 93], none⟩,
    ⟨.l 97, .p (.ext 1), [.l 93], none⟩,
    ⟨.v 11, .p .mv, [.l 96], none⟩,
    ⟨.l 12, .p .mv, [.l 97], none⟩])
  (.seq
  (.reg [⟨.l 98, .p .mv, [.v 11], none⟩,
    ⟨.v 4, .p .mv, [.l 98], none⟩])
  .ret)))))))⟩

/- cellular/cellularref05.Right -/
def c18_B0 : C :=
  (.seq
  (.seq
  (.reg [⟨.l 4, .p .mv, [.v 3], none⟩,
    ⟨.l 5, .p .mv, [.v 0], none⟩,
    ⟨.l 6, .p (.len false), [.l 5], none⟩,
    ⟨.v 7, .p (.bin .lss), [.l 4, .l 6], none⟩])
  (.ite (.v 7)
    .skip
    (.ex 0)))
  (.seq
  (.blk 1
  (.seq
  (.reg [⟨.l 10, .p .mv, [.v 0], none⟩,
    ⟨.l 11, .p .mv, [.v 3], none⟩,
    ⟨.l 12, .p (.ixa 3), [.l 10, .l 11], none⟩,
    ⟨.l 13, .p (.fad 0), [.l 12], none⟩,
    ⟨.l 14, .r (.ld false 1), [.l 13], none⟩,
    ⟨.l 15, .p .mv, [.v 0], none⟩,
    ⟨.l 16, .p .mv, [.v 3], none⟩,
    ⟨.l 17, .p (.ixa 3), [.l 15, .l 16], none⟩,
    ⟨.l 18, .p (.fad 1), [.l 17], none⟩,
    ⟨.l 19, .r (.ld false 1), [.l 18], none⟩,
    ⟨.l 20, .l (.cal 39), [.l 14, .l 19], none⟩,
    ⟨.l 21, .p (.un .not), [.l 20], none⟩,
    ⟨.l 22, .p .mv, [.l 21], none⟩,
    ⟨.l 23, .p .mv, [.v 0], some (.l 22, false)⟩,
    ⟨.l 24, .p .mv, [.v 3], some (.l 22, false)⟩,
    ⟨.l 25, .p (.ixa 3), [.l 23, .l 24], some (.l 22, false)⟩,
    ⟨.l 26, .p (.fad 2), [.l 25], some (.l 22, false)⟩,
    ⟨.l 27, .r (.ld false 1), [.l 26], some (.l 22, false)⟩,
    ⟨.l 28, .p (.bin .lss), [.l 27, .k (.m (.i .i64 1))], some (.l 22, false)⟩,
    ⟨.l 29, .p .pick, [.l 22, .k (.m (.b true)), .l 28], none⟩,
    ⟨.l 30, .p .mv, [.l 29], none⟩,
    ⟨.l 31, .p .mv, [.v 0], some (.l 30, false)⟩,
    ⟨.l 32, .p .mv, [.v 3], some (.l 30, false)⟩,
    ⟨.l 33, .p (.ixa 3), [.l 31, .l 32], some (.l 30, false)⟩,
    ⟨.l 34, .p (.fad 2), [.l 33], some (.l 30, false)⟩,
    ⟨.l 35, .r (.ld false 1), [.l 34], some (.l 30, false)⟩,
    ⟨.l 36, .p (.bin .geq), [.l 35, .k (.m (.i .i64 8))], some (.l 30, false)⟩,
    ⟨.l 37, .p .pick, [.l 30, .k (.m (.b true)), .l 36], none⟩,
    ⟨.l 38, .p .mv, [.l 37], none⟩,
    ⟨.l 39, .p .mv, [.v 3], some (.l 38, false)⟩,
    ⟨.l 40, .p (.bin .gtr), [.l 39, .k (.m (.i .i64 0))], some (.l 38, false)⟩,
    ⟨.l 41, .p .mv, [.l 40], some (.l 38, false)⟩,
    ⟨.l 42, .p .mv, [.v 0], some (.l 41, true)⟩,
    ⟨.l 43, .p .mv, [.v 3], some (.l 41, true)⟩,
    ⟨.l 44, .p (.bin .sub), [.l 43, .k (.m (.i .i64 1))], some (.l 41, true)⟩,
    ⟨.l 45, .p (.ixa 3), [.l 42, .l 44], some (.l 41, true)⟩,
    ⟨.l 46, .r (.ld true 3), [.l 45], some (.l 41, true)⟩,
    ⟨.l 47, .p .mv, [.v 0], some (.l 41, true)⟩,
    ⟨.l 48, .p .mv, [.v 3], some (.l 41, true)⟩,
    ⟨.l 49, .p (.ixa 3), [.l 47, .l 48], some (.l 41, true)⟩,
    ⟨.l 50, .r (.ld true 3), [.l 49], some (.l 41, true)⟩,
    ⟨.l 51, .l (.cal 42), [.l 46, .l 50], some (.l 41, true)⟩,
    ⟨.l 52, .p (.un .not), [.l 51], some (.l 41, true)⟩,
    ⟨.l 53, .p .pick, [.l 41, .l 52, .k (.m (.b false))], some (.l 38, false)⟩,
    ⟨.v 54, .p .pick, [.l 38, .k (.m (.b true)), .l 53], none⟩])
  (.ite (.v 54)
    (.seq
    (.reg [⟨.v 2, .p .mv, [.k (.m (.b false))], none⟩])
    .ret)
    .skip)))
  (.reg [⟨.l 8, .p .mv, [.v 3], none⟩,
    ⟨.l 9, .p (.bin .add), [.l 8, .k (.m (.i .i64 1))], none⟩,
    ⟨.v 3, .p .mv, [.l 9], none⟩])))
def c18_L0 : C := .loop [2, 7, 54] c18_B0
def c18 : F := ⟨1, [.t 2],
  (.seq
  (.reg [⟨.v 2, .p .mv, [.k (.m (.b false))], none⟩])
  (.seq
  (.seq
  (.reg [⟨.v 3, .p .mv, [.k (.m (.i .i64 0))], none⟩])
  (.blk 0
  c18_L0))
  (.seq
  (.reg [⟨.l 55, .p .mv, [.v 0], none⟩,
    ⟨.l 56, .p (.len false), [.l 55], none⟩,
    ⟨.l 57, .p (.bin .leq), [.l 56, .k (.m (.i .i64 5000))], none⟩,
    ⟨.v 2, .p .mv, [.l 57], none⟩])
  .ret)))⟩

/- cellular/canon.Syms -/
def c19_A0 : C :=
  (.seq
  (.reg [⟨.v 5, .p .mv, [.v 19], none⟩])
  (.reg [⟨.v 6, .p .mv, [.v 20], none⟩]))
def c19_R0 : C :=
  (.blk 1
  (.seq
  (.reg [⟨.l 21, .p .mv, [.v 6], none⟩,
    ⟨.l 22, .r (.ld false 1), [.v 4], none⟩,
    ⟨.v 23, .l (.cal 43), [.l 21, .l 22], none⟩])
  (.ite (.v 23)
    (.reg [⟨.l 24, .r (.ld false 1), [.v 3], none⟩,
      ⟨.l 25, .p .mv, [.v 5], none⟩,
      ⟨.l 26, .p (.bsl 1 [.m (.i .i64 0)] 1 [0]), [.l 25], none⟩,
      ⟨.l 27, .l (.app 3 1 8), [.l 24, .l 26], none⟩,
      ⟨.no, .l (.st 1), [.v 3, .l 27], none⟩])
    .skip)))
def c19 : F := ⟨1, [.t 2],
  (.seq
  (.reg [⟨.v 2, .p .mv, [.k (.m (.nl 4))], none⟩])
  (.seq
  (.seq
  (.reg [⟨.l 7, .p .mv, [.v 0], none⟩,
    ⟨.l 8, .l (.cal 24), [.l 7], none⟩,
    ⟨.l 9, .p (.un .not), [.l 8], none⟩,
    ⟨.l 10, .p .mv, [.l 9], none⟩,
    ⟨.l 11, .p .mv, [.v 0], some (.l 10, false)⟩,
    ⟨.l 12, .l (.cal 25), [.l 11], some (.l 10, false)⟩,
    ⟨.v 13, .p .pick, [.l 10, .k (.m (.b true)), .l 12], none⟩])
  (.ite (.v 13)
    (.seq
    (.reg [⟨.v 2, .p .mv, [.k (.m (.nl 4))], none⟩])
    .ret)
    .skip))
  (.seq
  (.reg [⟨.v 3, .l (.als 33 1 1 [.m (.nl 4)]), [], none⟩])
  (.seq
  (.reg [⟨.l 14, .p .mv, [.v 0], none⟩,
    ⟨.l 15, .l (.cal 27), [.l 14], none⟩,
    ⟨.v 4, .l (.als 23 1 1 [.m (.nl 4)]), [], none⟩,
    ⟨.no, .l (.st 1), [.v 4, .l 15], none⟩])
  (.seq
  (.seq
  (.reg [⟨.l 16, .p .mv, [.v 0], none⟩,
    ⟨.l 17, .p (.bsl 1 [.m (.i .i64 0)] 8 [0, 1, 2, 3, 4, 5, 6, 7]), [.k (.m (.i .i64 0)), .k (.m (.i .i64 1)), .k (.m (.i .i64 2)), .k (.m (.i .i64 3)), .k (.m (.i .i64 4)), .k (.m (.i .i64 5)), .k (.m (.i .i64 6)), .k (.m (.i .i64 7))], none⟩,
    ⟨.v 18, .l (.cal 33), [.l 16, .l 17], none⟩])
  (.blk 0
  (.rng (.v 18) [0, 2, 13, 18] [19, 20] c19_A0 c19_R0)))
  (.seq
  (.reg [⟨.l 28, .r (.ld false 1), [.v 3], none⟩,
    ⟨.v 2, .p .mv, [.l 28], none⟩])
  .ret))))))⟩

/- cellular/cellularref33.Large -/
def c20 : F := ⟨1, [.t 2],
  (.seq
  (.reg [⟨.v 2, .p .mv, [.k (.m (.b false))], none⟩])
  (.seq
  (.reg [⟨.l 6, .p .mv, [.v 0], none⟩,
    ⟨.l 7, .l (.cal 44), [.l 6], none⟩,
    ⟨.l 5, .p .mv, [.l 7], none⟩,
    ⟨.l 8, .p (.ext 0), [.l 5], none⟩,
    ⟨.l 9, .p (.ext 1), [.l 5], none⟩,
    ⟨.v 3, .l (.alp 3 [.m (.i .i64 0), .m (.i .i64 0), .m (.i .i64 0), .m (.i .i64 0)]), [], none⟩,
    ⟨.no, .l (.st 4), [.v 3, .l 8], none⟩,
    ⟨.l 4, .p .mv, [.l 9], none⟩])
  (.seq
  (.reg [⟨.l 10, .p (.fad 2), [.v 3], none⟩,
    ⟨.l 11, .r (.ld false 1), [.l 10], none⟩,
    ⟨.l 12, .p (.bin .gtr), [.l 11, .k (.m (.i .i64 1048577))], none⟩,
    ⟨.l 13, .p .mv, [.l 12], none⟩,
    ⟨.l 14, .p (.fad 3), [.v 3], some (.l 13, false)⟩,
    ⟨.l 15, .r (.ld false 1), [.l 14], some (.l 13, false)⟩,
    ⟨.l 16, .p (.bin .gtr), [.l 15, .k (.m (.i .i64 1048577))], some (.l 13, false)⟩,
    ⟨.l 17, .p .pick, [.l 13, .k (.m (.b true)), .l 16], none⟩,
    ⟨.v 2, .p .mv, [.l 17], none⟩])
  .ret)))⟩

/- cellular/cellularlaw12.Ints -/
def c21_B0 : C :=
  (.seq
  (.reg [⟨.v 14, .p (.bin .lss), [.v 13, .v 12], none⟩])
  (.seq
  (.ite (.v 14)
    .skip
    (.ex 0))
  (.seq
  (.blk 1
  (.seq
  (.reg [⟨.l 15, .p .mv, [.v 13], none⟩,
    ⟨.v 5, .p .mv, [.l 15], none⟩])
  (.seq
  (.reg [⟨.l 16, .p .mv, [.v 0], none⟩,
    ⟨.l 17, .p .mv, [.v 5], none⟩,
    ⟨.l 18, .p (.ixa 1), [.l 16, .l 17], none⟩,
    ⟨.l 19, .r (.ld false 1), [.l 18], none⟩,
    ⟨.l 20, .p .mv, [.v 1], none⟩,
    ⟨.l 21, .p .mv, [.v 5], none⟩,
    ⟨.l 22, .p (.ixa 1), [.l 20, .l 21], none⟩,
    ⟨.l 23, .r (.ld false 1), [.l 22], none⟩,
    ⟨.v 24, .p (.bin .neq), [.l 19, .l 23], none⟩])
  (.ite (.v 24)
    (.seq
    (.reg [⟨.v 4, .p .mv, [.k (.m (.b false))], none⟩])
    .ret)
    .skip))))
  (.reg [⟨.l 25, .p (.bin .add), [.v 13, .k (.m (.i .i64 1))], none⟩,
    ⟨.v 13, .p .mv, [.l 25], none⟩]))))
def c21_L0 : C := .loop [4, 5, 10, 14, 24] c21_B0
def c21 : F := ⟨2, [.t 4],
  (.seq
  (.reg [⟨.v 4, .p .mv, [.k (.m (.b false))], none⟩])
  (.seq
  (.seq
  (.reg [⟨.l 6, .p .mv, [.v 0], none⟩,
    ⟨.l 7, .p (.len false), [.l 6], none⟩,
    ⟨.l 8, .p .mv, [.v 1], none⟩,
    ⟨.l 9, .p (.len false), [.l 8], none⟩,
    ⟨.v 10, .p (.bin .neq), [.l 7, .l 9], none⟩])
  (.ite (.v 10)
    (.seq
    (.reg [⟨.v 4, .p .mv, [.k (.m (.b false))], none⟩])
    .ret)
    .skip))
  (.seq
  (.seq
  (.reg [⟨.l 11, .p .mv, [.v 0], none⟩,
    ⟨.v 12, .p (.len false), [.l 11], none⟩,
    ⟨.v 13, .p .mv, [.k (.m (.i .i64 0))], none⟩])
  (.blk 0
  c21_L0))
  (.seq
  (.reg [⟨.v 4, .p .mv, [.k (.m (.b true))], none⟩])
  .ret))))⟩

/- cellular/cellularlaw33.bad -/
def c22 : F := ⟨1, [.t 2],
  (.seq
  (.reg [⟨.v 2, .p .mv, [.k (.m (.b false))], none⟩])
  (.seq
  (.reg [⟨.l 6, .p .mv, [.v 0], none⟩,
    ⟨.l 7, .l (.cal 11), [.l 6], none⟩,
    ⟨.l 5, .p .mv, [.l 7], none⟩,
    ⟨.l 8, .p (.ext 0), [.l 5], none⟩,
    ⟨.l 9, .p (.ext 1), [.l 5], none⟩,
    ⟨.l 3, .p .mv, [.l 8], none⟩,
    ⟨.v 4, .p .mv, [.l 9], none⟩])
  (.seq
  (.reg [⟨.l 10, .p .mv, [.v 4], none⟩,
    ⟨.l 11, .p (.bin .eql), [.l 10, .k (.m (.i .i64 15))], none⟩,
    ⟨.v 2, .p .mv, [.l 11], none⟩])
  .ret)))⟩

/- cellular/canon.Alike -/
def c23 : F := ⟨3, [.t 6],
  (.seq
  (.reg [⟨.v 6, .p .mv, [.k (.m (.b false))], none⟩])
  (.seq
  (.reg [⟨.l 12, .p .mv, [.v 0], none⟩,
    ⟨.l 13, .p .mv, [.v 2], none⟩,
    ⟨.l 14, .l (.cal 14), [.l 12, .l 13], none⟩,
    ⟨.l 11, .p .mv, [.l 14], none⟩,
    ⟨.l 15, .p (.ext 0), [.l 11], none⟩,
    ⟨.l 16, .p (.ext 1), [.l 11], none⟩,
    ⟨.v 7, .p .mv, [.l 15], none⟩,
    ⟨.v 8, .p .mv, [.l 16], none⟩])
  (.seq
  (.reg [⟨.l 18, .p .mv, [.v 1], none⟩,
    ⟨.l 19, .p .mv, [.v 2], none⟩,
    ⟨.l 20, .l (.cal 14), [.l 18, .l 19], none⟩,
    ⟨.l 17, .p .mv, [.l 20], none⟩,
    ⟨.l 21, .p (.ext 0), [.l 17], none⟩,
    ⟨.l 22, .p (.ext 1), [.l 17], none⟩,
    ⟨.v 9, .p .mv, [.l 21], none⟩,
    ⟨.v 10, .p .mv, [.l 22], none⟩])
  (.seq
  (.reg [⟨.l 23, .p .mv, [.v 8], none⟩,
    ⟨.l 24, .p (.bin .eql), [.l 23, .k (.m (.i .i64 0))], none⟩,
    ⟨.l 25, .p .mv, [.l 24], none⟩,
    ⟨.l 26, .p .mv, [.v 10], some (.l 25, true)⟩,
    ⟨.l 27, .p (.bin .eql), [.l 26, .k (.m (.i .i64 0))], some (.l 25, true)⟩,
    ⟨.l 28, .p .pick, [.l 25, .l 27, .k (.m (.b false))], none⟩,
    ⟨.l 29, .p .mv, [.l 28], none⟩,
    ⟨.l 30, .p .mv, [.v 7], some (.l 29, true)⟩,
    ⟨.l 31, .p .mv, [.v 9], some (.l 29, true)⟩,
    ⟨.l 32, .l (.cal 43), [.l 30, .l 31], some (.l 29, true)⟩,
    ⟨.l 33, .p .pick, [.l 29, .l 32, .k (.m (.b false))], none⟩,
    ⟨.v 6, .p .mv, [.l 33], none⟩])
  .ret))))⟩

/- cellular/pattern.Right -/
def c24_B0 : C :=
  (.seq
  (.reg [⟨.v 11, .p (.bin .lss), [.v 10, .v 9], none⟩])
  (.seq
  (.ite (.v 11)
    .skip
    (.ex 0))
  (.seq
  (.blk 1
  (.seq
  (.reg [⟨.l 12, .p .mv, [.v 10], none⟩,
    ⟨.l 13, .p (.ixa 3), [.v 8, .v 10], none⟩,
    ⟨.l 14, .r (.ld true 3), [.l 13], none⟩,
    ⟨.v 4, .l (.alp 4 [.m (.i .i64 0), .m (.i .i64 0), .m (.i .i64 0)]), [], none⟩,
    ⟨.v 3, .p .mv, [.l 12], none⟩,
    ⟨.no, .l (.st 3), [.v 4, .l 14], none⟩])
  (.seq
  (.reg [⟨.l 15, .r (.ld true 3), [.v 4], none⟩,
    ⟨.l 16, .l (.cal 46), [.l 15], none⟩,
    ⟨.l 17, .l (.cal 45), [.l 16], none⟩,
    ⟨.l 18, .p (.un .not), [.l 17], none⟩,
    ⟨.l 19, .p .mv, [.l 18], none⟩,
    ⟨.l 20, .p (.fad 2), [.v 4], some (.l 19, false)⟩,
    ⟨.l 21, .r (.ld false 1), [.l 20], some (.l 19, false)⟩,
    ⟨.l 22, .p (.bin .lss), [.l 21, .k (.m (.i .i64 1))], some (.l 19, false)⟩,
    ⟨.l 23, .p .pick, [.l 19, .k (.m (.b true)), .l 22], none⟩,
    ⟨.l 24, .p .mv, [.l 23], none⟩,
    ⟨.l 25, .p (.fad 2), [.v 4], some (.l 24, false)⟩,
    ⟨.l 26, .r (.ld false 1), [.l 25], some (.l 24, false)⟩,
    ⟨.l 27, .p (.bin .geq), [.l 26, .k (.m (.i .i64 8))], some (.l 24, false)⟩,
    ⟨.l 28, .p .pick, [.l 24, .k (.m (.b true)), .l 27], none⟩,
    ⟨.l 29, .p .mv, [.l 28], none⟩,
    ⟨.l 30, .p .mv, [.v 3], some (.l 29, false)⟩,
    ⟨.l 31, .p (.bin .gtr), [.l 30, .k (.m (.i .i64 0))], some (.l 29, false)⟩,
    ⟨.l 32, .p .mv, [.l 31], some (.l 29, false)⟩,
    ⟨.l 33, .p .mv, [.v 0], some (.l 32, true)⟩,
    ⟨.l 34, .p .mv, [.v 3], some (.l 32, true)⟩,
    ⟨.l 35, .p (.bin .sub), [.l 34, .k (.m (.i .i64 1))], some (.l 32, true)⟩,
    ⟨.l 36, .p (.ixa 3), [.l 33, .l 35], some (.l 32, true)⟩,
    ⟨.l 37, .r (.ld true 3), [.l 36], some (.l 32, true)⟩,
    ⟨.l 38, .r (.ld true 3), [.v 4], some (.l 32, true)⟩,
    ⟨.l 39, .l (.cal 47), [.l 37, .l 38], some (.l 32, true)⟩,
    ⟨.l 40, .p (.bin .geq), [.l 39, .k (.m (.i .i64 0))], some (.l 32, true)⟩,
    ⟨.l 41, .p .pick, [.l 32, .l 40, .k (.m (.b false))], some (.l 29, false)⟩,
    ⟨.v 42, .p .pick, [.l 29, .k (.m (.b true)), .l 41], none⟩])
  (.ite (.v 42)
    (.seq
    (.reg [⟨.v 2, .p .mv, [.k (.m (.b false))], none⟩])
    .ret)
    .skip))))
  (.reg [⟨.l 43, .p (.bin .add), [.v 10, .k (.m (.i .i64 1))], none⟩,
    ⟨.v 10, .p .mv, [.l 43], none⟩]))))
def c24_L0 : C := .loop [2, 3, 4, 7, 11, 42] c24_B0
def c24 : F := ⟨1, [.t 2],
  (.seq
  (.reg [⟨.v 2, .p .mv, [.k (.m (.b false))], none⟩])
  (.seq
  (.seq
  (.reg [⟨.l 5, .p .mv, [.v 0], none⟩,
    ⟨.l 6, .p (.len false), [.l 5], none⟩,
    ⟨.v 7, .p (.bin .gtr), [.l 6, .k (.m (.i .i64 5000))], none⟩])
  (.ite (.v 7)
    (.seq
    (.reg [⟨.v 2, .p .mv, [.k (.m (.b false))], none⟩])
    .ret)
    .skip))
  (.seq
  (.seq
  (.reg [⟨.v 8, .p .mv, [.v 0], none⟩,
    ⟨.v 9, .p (.len false), [.v 8], none⟩,
    ⟨.v 10, .p .mv, [.k (.m (.i .i64 0))], none⟩])
  (.blk 0
  c24_L0))
  (.seq
  (.reg [⟨.v 2, .p .mv, [.k (.m (.b true))], none⟩])
  .ret))))⟩

/- cellular/canon.large -/
def c25 : F := ⟨1, [.t 2],
  (.seq
  (.reg [⟨.v 2, .p .mv, [.k (.m (.b false))], none⟩])
  (.seq
  (.reg [⟨.l 6, .p .mv, [.v 0], none⟩,
    ⟨.l 7, .l (.cal 48), [.l 6], none⟩,
    ⟨.l 5, .p .mv, [.l 7], none⟩,
    ⟨.l 8, .p (.ext 0), [.l 5], none⟩,
    ⟨.l 9, .p (.ext 1), [.l 5], none⟩,
    ⟨.v 3, .l (.alp 3 [.m (.i .i64 0), .m (.i .i64 0), .m (.i .i64 0), .m (.i .i64 0)]), [], none⟩,
    ⟨.no, .l (.st 4), [.v 3, .l 8], none⟩,
    ⟨.l 4, .p .mv, [.l 9], none⟩])
  (.seq
  (.reg [⟨.l 10, .p (.fad 2), [.v 3], none⟩,
    ⟨.l 11, .r (.ld false 1), [.l 10], none⟩,
    ⟨.l 12, .p (.fad 3), [.v 3], none⟩,
    ⟨.l 13, .r (.ld false 1), [.l 12], none⟩,
    ⟨.l 14, .p (.mm true), [.l 11, .l 13], none⟩,
    ⟨.l 15, .p (.bin .gtr), [.l 14, .k (.m (.i .i64 1048577))], none⟩,
    ⟨.v 2, .p .mv, [.l 15], none⟩])
  .ret)))⟩

/- cellular/canon.code -/
def c26_B0 : C :=
  (.seq
  (.reg [⟨.v 15, .p (.bin .lss), [.v 14, .v 13], none⟩])
  (.seq
  (.ite (.v 15)
    .skip
    (.ex 0))
  (.seq
  (.blk 1
  (.seq
  (.reg [⟨.l 16, .p (.ixa 3), [.v 12, .v 14], none⟩,
    ⟨.l 17, .r (.ld true 3), [.l 16], none⟩,
    ⟨.v 10, .l (.alp 10 [.m (.i .i64 0), .m (.i .i64 0), .m (.i .i64 0)]), [], none⟩,
    ⟨.no, .l (.st 3), [.v 10, .l 17], none⟩])
  (.seq
  (.seq
  (.reg [⟨.l 18, .p (.fad 1), [.v 10], none⟩,
    ⟨.l 19, .r (.ld false 1), [.l 18], none⟩,
    ⟨.l 20, .p .mv, [.v 8], none⟩,
    ⟨.v 21, .p (.bin .gtr), [.l 19, .l 20], none⟩])
  (.ite (.v 21)
    (.seq
    (.reg [⟨.l 22, .p .mv, [.v 6], none⟩,
      ⟨.l 23, .p (.fad 1), [.v 10], none⟩,
      ⟨.l 24, .r (.ld false 1), [.l 23], none⟩,
      ⟨.l 25, .p .mv, [.v 8], none⟩,
      ⟨.l 26, .p (.bin .sub), [.l 24, .l 25], none⟩,
      ⟨.l 27, .l .cav, [.l 22, .l 26, .k (.m (.i .i64 8))], none⟩])
    (.reg [⟨.l 28, .p (.fad 1), [.v 10], none⟩,
      ⟨.l 29, .r (.ld false 1), [.l 28], none⟩,
      ⟨.v 7, .p .mv, [.k (.m (.i .i64 0))], none⟩,
      ⟨.v 8, .p .mv, [.l 29], none⟩]))
    .skip))
  (.seq
  (.seq
  (.reg [⟨.l 30, .p (.fad 0), [.v 10], none⟩,
    ⟨.l 31, .r (.ld false 1), [.l 30], none⟩,
    ⟨.l 32, .p .mv, [.v 7], none⟩,
    ⟨.v 33, .p (.bin .gtr), [.l 31, .l 32], none⟩])
  (.ite (.v 33)
    (.reg [⟨.l 34, .p .mv, [.v 6], none⟩,
      ⟨.l 35, .p (.fad 0), [.v 10], none⟩,
      ⟨.l 36, .r (.ld false 1), [.l 35], none⟩,
      ⟨.l 37, .p .mv, [.v 7], none⟩,
      ⟨.l 38, .p (.bin .sub), [.l 36, .l 37], none⟩,
      ⟨.l 39, .l .cav, [.l 34, .l 38, .k (.m (.i .i64 0))], none⟩])
    .skip))
  (.seq
  (.reg [⟨.l 40, .p .mv, [.v 6], none⟩,
    ⟨.l 41, .p (.fad 2), [.v 10], none⟩,
    ⟨.l 42, .r (.ld false 1), [.l 41], none⟩,
    ⟨.l 43, .l .cav, [.l 40, .k (.m (.i .i64 1)), .l 42], none⟩])
  (.reg [⟨.l 44, .p (.fad 0), [.v 10], none⟩,
    ⟨.l 45, .r (.ld false 1), [.l 44], none⟩,
    ⟨.l 46, .p (.bin .add), [.l 45, .k (.m (.i .i64 1))], none⟩,
    ⟨.v 7, .p .mv, [.l 46], none⟩]))))))
  (.reg [⟨.l 47, .p (.bin .add), [.v 14, .k (.m (.i .i64 1))], none⟩,
    ⟨.v 14, .p .mv, [.l 47], none⟩]))))
def c26_L0 : C := .loop [0, 2, 4, 5, 10, 15, 21, 33] c26_B0
def c26 : F := ⟨1, [.t 2],
  (.seq
  (.reg [⟨.v 2, .p .mv, [.k (.m (.s []))], none⟩])
  (.seq
  (.reg [⟨.v 3, .l (.als 74 2 1 [.m (.nl 0), .m (.nl 4)]), [], none⟩])
  (.seq
  (.reg [⟨.v 4, .l (.als 3 1 1 [.m (.i .i64 0)]), [], none⟩,
    ⟨.v 5, .l (.als 3 1 1 [.m (.i .i64 0)]), [], none⟩,
    ⟨.no, .l (.st 1), [.v 4, .k (.m (.i .i64 0))], none⟩,
    ⟨.no, .l (.st 1), [.v 5, .k (.m (.i .i64 (-1)))], none⟩])
  (.seq
  (.reg [⟨.l 11, .p (.mkf 49), [.v 5, .v 4, .v 3], none⟩,
    ⟨.v 6, .p .mv, [.l 11], none⟩])
  (.seq
  (.reg [⟨.v 7, .p .mv, [.k (.m (.i .i64 0))], none⟩,
    ⟨.v 8, .p .mv, [.k (.m (.i .i64 0))], none⟩])
  (.seq
  (.seq
  (.reg [⟨.v 12, .p .mv, [.v 0], none⟩,
    ⟨.v 13, .p (.len false), [.v 12], none⟩,
    ⟨.v 14, .p .mv, [.k (.m (.i .i64 0))], none⟩])
  (.blk 0
  c26_L0))
  (.seq
  (.reg [⟨.l 48, .p .mv, [.v 6], none⟩,
    ⟨.l 49, .l .cav, [.l 48, .k (.m (.i .i64 0)), .k (.m (.i .i64 (-1)))], none⟩])
  (.seq
  (.reg [⟨.l 50, .l (.cal 53), [.v 3], none⟩,
    ⟨.v 2, .p .mv, [.l 50], none⟩])
  .ret))))))))⟩

/- cellular/algebra.Home -/
def c27_B0 : C :=
  (.seq
  (.reg [⟨.v 27, .p (.bin .lss), [.v 26, .v 25], none⟩])
  (.seq
  (.ite (.v 27)
    .skip
    (.ex 0))
  (.seq
  (.blk 1
  (.seq
  (.reg [⟨.l 28, .p (.ixa 3), [.v 24, .v 26], none⟩,
    ⟨.l 29, .r (.ld true 3), [.l 28], none⟩,
    ⟨.v 7, .l (.alp 7 [.m (.i .i64 0), .m (.i .i64 0), .m (.i .i64 0)]), [], none⟩,
    ⟨.no, .l (.st 3), [.v 7, .l 29], none⟩])
  (.reg [⟨.l 30, .p .mv, [.v 5], none⟩,
    ⟨.l 31, .p (.fad 0), [.v 7], none⟩,
    ⟨.l 32, .r (.ld false 1), [.l 31], none⟩,
    ⟨.l 33, .p (.fad 0), [.v 3], none⟩,
    ⟨.l 34, .r (.ld false 1), [.l 33], none⟩,
    ⟨.l 35, .p (.bin .sub), [.l 32, .l 34], none⟩,
    ⟨.l 36, .p (.fad 1), [.v 7], none⟩,
    ⟨.l 37, .r (.ld false 1), [.l 36], none⟩,
    ⟨.l 38, .p (.fad 1), [.v 3], none⟩,
    ⟨.l 39, .r (.ld false 1), [.l 38], none⟩,
    ⟨.l 40, .p (.bin .sub), [.l 37, .l 39], none⟩,
    ⟨.l 41, .p (.fad 2), [.v 7], none⟩,
    ⟨.l 42, .r (.ld false 1), [.l 41], none⟩,
    ⟨.l 43, .p (.build [.m (.i .i64 0), .m (.i .i64 0), .m (.i .i64 0)] [(0, 1), (1, 1), (2, 1)]), [.l 35, .l 40, .l 42], none⟩,
    ⟨.l 44, .p (.bsl 3 [.m (.i .i64 0), .m (.i .i64 0), .m (.i .i64 0)] 1 [0]), [.l 43], none⟩,
    ⟨.l 45, .l (.app 43 3 24), [.l 30, .l 44], none⟩,
    ⟨.v 5, .p .mv, [.l 45], none⟩])))
  (.reg [⟨.l 46, .p (.bin .add), [.v 26, .k (.m (.i .i64 1))], none⟩,
    ⟨.v 26, .p .mv, [.l 46], none⟩]))))
def c27_L0 : C := .loop [0, 2, 4, 7, 19, 27] c27_B0
def c27 : F := ⟨1, [.t 2],
  (.seq
  (.reg [⟨.v 2, .p .mv, [.k (.m (.nl 4))], none⟩])
  (.seq
  (.reg [⟨.l 9, .p .mv, [.v 0], none⟩,
    ⟨.l 10, .l (.cal 48), [.l 9], none⟩,
    ⟨.l 8, .p .mv, [.l 10], none⟩,
    ⟨.l 11, .p (.ext 0), [.l 8], none⟩,
    ⟨.l 12, .p (.ext 1), [.l 8], none⟩,
    ⟨.v 3, .l (.alp 3 [.m (.i .i64 0), .m (.i .i64 0), .m (.i .i64 0), .m (.i .i64 0)]), [], none⟩,
    ⟨.no, .l (.st 4), [.v 3, .l 11], none⟩,
    ⟨.v 4, .p .mv, [.l 12], none⟩])
  (.seq
  (.seq
  (.reg [⟨.l 13, .p .mv, [.v 4], none⟩,
    ⟨.l 14, .p (.un .not), [.l 13], none⟩,
    ⟨.l 15, .p .mv, [.l 14], none⟩,
    ⟨.l 16, .p .mv, [.v 0], some (.l 15, false)⟩,
    ⟨.l 17, .l (.cal 24), [.l 16], some (.l 15, false)⟩,
    ⟨.l 18, .p (.un .not), [.l 17], some (.l 15, false)⟩,
    ⟨.v 19, .p .pick, [.l 15, .k (.m (.b true)), .l 18], none⟩])
  (.ite (.v 19)
    (.seq
    (.reg [⟨.l 20, .p .mv, [.v 0], none⟩,
      ⟨.v 2, .p .mv, [.l 20], none⟩])
    .ret)
    .skip))
  (.seq
  (.reg [⟨.l 21, .p .mv, [.v 0], none⟩,
    ⟨.l 22, .p (.len false), [.l 21], none⟩,
    ⟨.l 23, .l (.mks 43 3 [.m (.i .i64 0), .m (.i .i64 0), .m (.i .i64 0)] 24), [.k (.m (.i .i64 0)), .l 22], none⟩,
    ⟨.v 5, .p .mv, [.l 23], none⟩])
  (.seq
  (.seq
  (.reg [⟨.v 24, .p .mv, [.v 0], none⟩,
    ⟨.v 25, .p (.len false), [.v 24], none⟩,
    ⟨.v 26, .p .mv, [.k (.m (.i .i64 0))], none⟩])
  (.blk 0
  c27_L0))
  (.seq
  (.reg [⟨.l 47, .p .mv, [.v 5], none⟩,
    ⟨.v 2, .p .mv, [.l 47], none⟩])
  .ret))))))⟩

/- cellular/cellularref33.Write -/
def c28_B0 : C :=
  (.seq
  (.seq
  (.reg [⟨.l 44, .p .mv, [.v 6], none⟩,
    ⟨.l 45, .p .mv, [.v 8], none⟩,
    ⟨.l 46, .p (.bin .add), [.l 44, .l 45], none⟩,
    ⟨.l 47, .p .mv, [.v 0], none⟩,
    ⟨.l 48, .p (.len false), [.l 47], none⟩,
    ⟨.l 49, .p (.bin .lss), [.l 46, .l 48], none⟩,
    ⟨.l 50, .p .mv, [.l 49], none⟩,
    ⟨.l 51, .p .mv, [.v 0], some (.l 50, true)⟩,
    ⟨.l 52, .p .mv, [.v 6], some (.l 50, true)⟩,
    ⟨.l 53, .p .mv, [.v 8], some (.l 50, true)⟩,
    ⟨.l 54, .p (.bin .add), [.l 52, .l 53], some (.l 50, true)⟩,
    ⟨.l 55, .p (.ixa 3), [.l 51, .l 54], some (.l 50, true)⟩,
    ⟨.l 56, .p (.fad 1), [.l 55], some (.l 50, true)⟩,
    ⟨.l 57, .r (.ld false 1), [.l 56], some (.l 50, true)⟩,
    ⟨.l 58, .p (.fad 1), [.v 7], some (.l 50, true)⟩,
    ⟨.l 59, .r (.ld false 1), [.l 58], some (.l 50, true)⟩,
    ⟨.l 60, .p (.bin .eql), [.l 57, .l 59], some (.l 50, true)⟩,
    ⟨.l 61, .p .pick, [.l 50, .l 60, .k (.m (.b false))], none⟩,
    ⟨.l 62, .p .mv, [.l 61], none⟩,
    ⟨.l 63, .p .mv, [.v 0], some (.l 62, true)⟩,
    ⟨.l 64, .p .mv, [.v 6], some (.l 62, true)⟩,
    ⟨.l 65, .p .mv, [.v 8], some (.l 62, true)⟩,
    ⟨.l 66, .p (.bin .add), [.l 64, .l 65], some (.l 62, true)⟩,
    ⟨.l 67, .p (.ixa 3), [.l 63, .l 66], some (.l 62, true)⟩,
    ⟨.l 68, .p (.fad 0), [.l 67], some (.l 62, true)⟩,
    ⟨.l 69, .r (.ld false 1), [.l 68], some (.l 62, true)⟩,
    ⟨.l 70, .p (.fad 0), [.v 7], some (.l 62, true)⟩,
    ⟨.l 71, .r (.ld false 1), [.l 70], some (.l 62, true)⟩,
    ⟨.l 72, .p .mv, [.v 8], some (.l 62, true)⟩,
    ⟨.l 73, .p (.bin .add), [.l 71, .l 72], some (.l 62, true)⟩,
    ⟨.l 74, .p (.bin .eql), [.l 69, .l 73], some (.l 62, true)⟩,
    ⟨.l 75, .p .pick, [.l 62, .l 74, .k (.m (.b false))], none⟩,
    ⟨.l 76, .p .mv, [.l 75], none⟩,
    ⟨.l 77, .p .mv, [.v 0], some (.l 76, true)⟩,
    ⟨.l 78, .p .mv, [.v 6], some (.l 76, true)⟩,
    ⟨.l 79, .p .mv, [.v 8], some (.l 76, true)⟩,
    ⟨.l 80, .p (.bin .add), [.l 78, .l 79], some (.l 76, true)⟩,
    ⟨.l 81, .p (.ixa 3), [.l 77, .l 80], some (.l 76, true)⟩,
    ⟨.l 82, .p (.fad 2), [.l 81], some (.l 76, true)⟩,
    ⟨.l 83, .r (.ld false 1), [.l 82], some (.l 76, true)⟩,
    ⟨.l 84, .p (.fad 2), [.v 7], some (.l 76, true)⟩,
    ⟨.l 85, .r (.ld false 1), [.l 84], some (.l 76, true)⟩,
    ⟨.l 86, .p (.bin .eql), [.l 83, .l 85], some (.l 76, true)⟩,
    ⟨.v 87, .p .pick, [.l 76, .l 86, .k (.m (.b false))], none⟩])
  (.ite (.v 87)
    .skip
    (.ex 2)))
  (.blk 3
  (.reg [⟨.l 88, .p .mv, [.v 8], none⟩,
    ⟨.l 89, .p (.bin .add), [.l 88, .k (.m (.i .i64 1))], none⟩,
    ⟨.v 8, .p .mv, [.l 89], none⟩])))
def c28_L0 : C := .loop [4, 15, 23, 36, 87] c28_B0
def c28_B1 : C :=
  (.seq
  (.seq
  (.reg [⟨.l 12, .p .mv, [.v 6], none⟩,
    ⟨.l 13, .p .mv, [.v 0], none⟩,
    ⟨.l 14, .p (.len false), [.l 13], none⟩,
    ⟨.v 15, .p (.bin .lss), [.l 12, .l 14], none⟩])
  (.ite (.v 15)
    .skip
    (.ex 0)))
  (.blk 1
  (.seq
  (.reg [⟨.l 16, .p .mv, [.v 0], none⟩,
    ⟨.l 17, .p .mv, [.v 6], none⟩,
    ⟨.l 18, .p (.ixa 3), [.l 16, .l 17], none⟩,
    ⟨.l 19, .r (.ld true 3), [.l 18], none⟩,
    ⟨.v 7, .l (.alp 7 [.m (.i .i64 0), .m (.i .i64 0), .m (.i .i64 0)]), [], none⟩,
    ⟨.no, .l (.st 3), [.v 7, .l 19], none⟩])
  (.seq
  (.seq
  (.reg [⟨.l 20, .p (.fad 1), [.v 7], none⟩,
    ⟨.l 21, .r (.ld false 1), [.l 20], none⟩,
    ⟨.l 22, .p .mv, [.v 5], none⟩,
    ⟨.v 23, .p (.bin .gtr), [.l 21, .l 22], none⟩])
  (.ite (.v 23)
    (.seq
    (.reg [⟨.l 24, .p .mv, [.v 3], none⟩,
      ⟨.l 25, .p (.fad 1), [.v 7], none⟩,
      ⟨.l 26, .r (.ld false 1), [.l 25], none⟩,
      ⟨.l 27, .p .mv, [.v 5], none⟩,
      ⟨.l 28, .p (.bin .sub), [.l 26, .l 27], none⟩,
      ⟨.l 29, .l (.cal 54), [.l 28, .k (.m (.s [36]))], none⟩,
      ⟨.l 30, .p (.bin .add), [.l 24, .l 29], none⟩,
      ⟨.v 3, .p .mv, [.l 30], none⟩])
    (.seq
    (.reg [⟨.v 4, .p .mv, [.k (.m (.i .i64 0))], none⟩])
    (.reg [⟨.l 31, .p (.fad 1), [.v 7], none⟩,
      ⟨.l 32, .r (.ld false 1), [.l 31], none⟩,
      ⟨.v 5, .p .mv, [.l 32], none⟩])))
    .skip))
  (.seq
  (.seq
  (.reg [⟨.l 33, .p (.fad 0), [.v 7], none⟩,
    ⟨.l 34, .r (.ld false 1), [.l 33], none⟩,
    ⟨.l 35, .p .mv, [.v 4], none⟩,
    ⟨.v 36, .p (.bin .gtr), [.l 34, .l 35], none⟩])
  (.ite (.v 36)
    (.reg [⟨.l 37, .p .mv, [.v 3], none⟩,
      ⟨.l 38, .p (.fad 0), [.v 7], none⟩,
      ⟨.l 39, .r (.ld false 1), [.l 38], none⟩,
      ⟨.l 40, .p .mv, [.v 4], none⟩,
      ⟨.l 41, .p (.bin .sub), [.l 39, .l 40], none⟩,
      ⟨.l 42, .l (.cal 54), [.l 41, .k (.m (.s [46]))], none⟩,
      ⟨.l 43, .p (.bin .add), [.l 37, .l 42], none⟩,
      ⟨.v 3, .p .mv, [.l 43], none⟩])
    .skip))
  (.seq
  (.reg [⟨.v 8, .p .mv, [.k (.m (.i .i64 1))], none⟩])
  (.seq
  (.blk 2
  c28_L0)
  (.seq
  (.reg [⟨.l 90, .p .mv, [.v 3], none⟩,
    ⟨.l 91, .p .mv, [.v 8], none⟩,
    ⟨.l 92, .p (.fad 2), [.v 7], none⟩,
    ⟨.l 93, .r (.ld false 1), [.l 92], none⟩,
    ⟨.l 94, .p (.bin .sub), [.l 93, .k (.m (.i .i64 1))], none⟩,
    ⟨.l 95, .p (.fad 2), [.v 7], none⟩,
    ⟨.l 96, .r (.ld false 1), [.l 95], none⟩,
    ⟨.l 97, .p (.slc 0 true true false), [.k (.m (.s [65, 66, 67, 68, 69, 70, 71])), .l 94, .l 96], none⟩,
    ⟨.l 98, .l (.cal 54), [.l 91, .l 97], none⟩,
    ⟨.l 99, .p (.bin .add), [.l 90, .l 98], none⟩,
    ⟨.v 3, .p .mv, [.l 99], none⟩])
  (.seq
  (.reg [⟨.l 100, .p (.fad 0), [.v 7], none⟩,
    ⟨.l 101, .r (.ld false 1), [.l 100], none⟩,
    ⟨.l 102, .p .mv, [.v 8], none⟩,
    ⟨.l 103, .p (.bin .add), [.l 101, .l 102], none⟩,
    ⟨.v 4, .p .mv, [.l 103], none⟩])
  (.reg [⟨.l 104, .p .mv, [.v 6], none⟩,
    ⟨.l 105, .p .mv, [.v 8], none⟩,
    ⟨.l 106, .p (.bin .add), [.l 104, .l 105], none⟩,
    ⟨.v 6, .p .mv, [.l 106], none⟩]))))))))))
def c28_L1 : C := .loop [2, 7, 8, 11, 87] c28_B1
def c28 : F := ⟨1, [.t 2],
  (.seq
  (.reg [⟨.v 2, .p .mv, [.k (.m (.s []))], none⟩])
  (.seq
  (.seq
  (.reg [⟨.l 9, .p .mv, [.v 0], none⟩,
    ⟨.l 10, .p (.len false), [.l 9], none⟩,
    ⟨.v 11, .p (.bin .eql), [.l 10, .k (.m (.i .i64 0))], none⟩])
  (.ite (.v 11)
    (.seq
    (.reg [⟨.v 2, .p .mv, [.k (.m (.s [45]))], none⟩])
    .ret)
    .skip))
  (.seq
  (.reg [⟨.v 3, .p .mv, [.k (.m (.s []))], none⟩])
  (.seq
  (.reg [⟨.v 4, .p .mv, [.k (.m (.i .i64 0))], none⟩,
    ⟨.v 5, .p .mv, [.k (.m (.i .i64 0))], none⟩])
  (.seq
  (.seq
  (.reg [⟨.v 6, .p .mv, [.k (.m (.i .i64 0))], none⟩])
  (.blk 0
  c28_L1))
  (.seq
  (.reg [⟨.l 107, .p .mv, [.v 3], none⟩,
    ⟨.v 2, .p .mv, [.l 107], none⟩])
  .ret))))))⟩

/- cellular/canon.cells -/
def c29_B0 : C :=
  (.seq
  (.seq
  (.reg [⟨.l 43, .p .mv, [.v 11], none⟩,
    ⟨.l 44, .p (.bin .gtr), [.l 43, .k (.m (.i .i64 0))], none⟩,
    ⟨.l 45, .p .mv, [.l 44], none⟩,
    ⟨.l 46, .p .mv, [.v 12], some (.l 45, true)⟩,
    ⟨.l 47, .p .mv, [.v 7], some (.l 45, true)⟩,
    ⟨.l 48, .p (.bin .lss), [.l 46, .l 47], some (.l 45, true)⟩,
    ⟨.v 49, .p .pick, [.l 45, .l 48, .k (.m (.b false))], none⟩])
  (.ite (.v 49)
    .skip
    (.ex 3)))
  (.seq
  (.blk 4
  (.reg [⟨.l 52, .p .mv, [.v 4], none⟩,
    ⟨.l 53, .p .mv, [.v 5], none⟩,
    ⟨.l 54, .p .mv, [.v 12], none⟩,
    ⟨.l 55, .p (.bin .add), [.l 53, .l 54], none⟩,
    ⟨.l 56, .p .mv, [.v 6], none⟩,
    ⟨.l 57, .p .mv, [.v 11], none⟩,
    ⟨.l 58, .p (.build [.m (.i .i64 0), .m (.i .i64 0), .m (.i .i64 0)] [(0, 1), (1, 1), (2, 1)]), [.l 55, .l 56, .l 57], none⟩,
    ⟨.l 59, .p (.bsl 3 [.m (.i .i64 0), .m (.i .i64 0), .m (.i .i64 0)] 1 [0]), [.l 58], none⟩,
    ⟨.l 60, .l (.app 43 3 24), [.l 52, .l 59], none⟩,
    ⟨.v 4, .p .mv, [.l 60], none⟩]))
  (.reg [⟨.l 50, .p .mv, [.v 12], none⟩,
    ⟨.l 51, .p (.bin .add), [.l 50, .k (.m (.i .i64 1))], none⟩,
    ⟨.v 12, .p .mv, [.l 51], none⟩])))
def c29_L0 : C := .loop [8, 9, 10, 16, 26, 40, 42, 49, 64, 70] c29_B0
def c29_B1 : C :=
  (.seq
  (.reg [⟨.v 16, .p (.bin .lss), [.v 15, .v 14], none⟩])
  (.seq
  (.ite (.v 16)
    .skip
    (.ex 0))
  (.seq
  (.blk 1
  (.seq
  (.reg [⟨.l 17, .p .mv, [.v 15], none⟩,
    ⟨.v 9, .p .mv, [.l 17], none⟩])
  (.seq
  (.reg [⟨.l 18, .p .mv, [.v 0], none⟩,
    ⟨.l 19, .p .mv, [.v 9], none⟩,
    ⟨.l 20, .p .ixs, [.l 18, .l 19], none⟩,
    ⟨.v 10, .p .mv, [.l 20], none⟩])
  (.seq
  (.seq
  (.reg [⟨.l 21, .p .mv, [.v 10], none⟩,
    ⟨.l 22, .p (.bin .geq), [.l 21, .k (.m (.i .u8 48))], none⟩,
    ⟨.l 23, .p .mv, [.l 22], none⟩,
    ⟨.l 24, .p .mv, [.v 10], some (.l 23, true)⟩,
    ⟨.l 25, .p (.bin .leq), [.l 24, .k (.m (.i .u8 57))], some (.l 23, true)⟩,
    ⟨.v 26, .p .pick, [.l 23, .l 25, .k (.m (.b false))], none⟩])
  (.ite (.v 26)
    (.seq
    (.reg [⟨.l 27, .p .mv, [.v 7], none⟩,
      ⟨.l 28, .p (.bin .mul), [.k (.m (.i .i64 10)), .l 27], none⟩,
      ⟨.l 29, .p .mv, [.v 10], none⟩,
      ⟨.l 30, .p (.bin .sub), [.l 29, .k (.m (.i .u8 48))], none⟩,
      ⟨.l 31, .p (.cv .i64), [.l 30], none⟩,
      ⟨.l 32, .p (.bin .add), [.l 28, .l 31], none⟩,
      ⟨.v 7, .p .mv, [.l 32], none⟩])
    (.seq
    (.seq
    (.reg [⟨.l 33, .p .mv, [.v 8], none⟩,
      ⟨.l 34, .p (.bin .add), [.l 33, .k (.m (.i .i64 1))], none⟩,
      ⟨.v 8, .p .mv, [.l 34], none⟩])
    (.seq
    (.reg [⟨.l 35, .p .mv, [.v 8], none⟩,
      ⟨.v 36, .p (.bin .gtr), [.l 35, .k (.m (.i .i64 7))], none⟩])
    (.ite (.v 36)
      (.seq
      (.reg [⟨.v 2, .p .mv, [.k (.m (.nl 4))], none⟩,
        ⟨.v 3, .p .mv, [.k (.m (.b false))], none⟩])
      .ret)
      .skip)))
    (.ex 1)))
    .skip))
  (.seq
  (.reg [⟨.l 37, .p .mv, [.v 10], none⟩,
    ⟨.l 38, .l (.cal 55), [.k (.m (.s [46, 65, 66, 67, 68, 69, 70, 71, 36])), .l 37], none⟩,
    ⟨.v 11, .p .mv, [.l 38], none⟩])
  (.seq
  (.seq
  (.reg [⟨.l 39, .p .mv, [.v 11], none⟩,
    ⟨.v 40, .p (.bin .lss), [.l 39, .k (.m (.i .i64 0))], none⟩])
  (.ite (.v 40)
    (.seq
    (.reg [⟨.v 2, .p .mv, [.k (.m (.nl 4))], none⟩,
      ⟨.v 3, .p .mv, [.k (.m (.b false))], none⟩])
    .ret)
    .skip))
  (.seq
  (.seq
  (.reg [⟨.l 41, .p .mv, [.v 8], none⟩,
    ⟨.v 42, .p (.bin .eql), [.l 41, .k (.m (.i .i64 0))], none⟩])
  (.ite (.v 42)
    (.reg [⟨.v 7, .p .mv, [.k (.m (.i .i64 1))], none⟩])
    .skip))
  (.seq
  (.blk 2
  (.seq
  (.reg [⟨.l 65, .p .mv, [.v 11], none⟩,
    ⟨.l 66, .p (.bin .eql), [.l 65, .k (.m (.i .i64 8))], none⟩,
    ⟨.v 64, .p .mv, [.l 66], none⟩])
  (.ite (.v 64)
    (.reg [⟨.l 67, .p .mv, [.v 6], none⟩,
      ⟨.l 68, .p .mv, [.v 7], none⟩,
      ⟨.l 69, .p (.bin .add), [.l 67, .l 68], none⟩,
      ⟨.v 5, .p .mv, [.k (.m (.i .i64 0))], none⟩,
      ⟨.v 6, .p .mv, [.l 69], none⟩])
    (.seq
    (.reg [⟨.l 71, .p .mv, [.v 11], none⟩,
      ⟨.l 72, .p (.bin .gtr), [.l 71, .k (.m (.i .i64 0))], none⟩,
      ⟨.l 73, .p .mv, [.l 72], none⟩,
      ⟨.l 74, .p .mv, [.v 4], some (.l 73, true)⟩,
      ⟨.l 75, .p (.len false), [.l 74], some (.l 73, true)⟩,
      ⟨.l 76, .p .mv, [.v 7], some (.l 73, true)⟩,
      ⟨.l 77, .p (.bin .add), [.l 75, .l 76], some (.l 73, true)⟩,
      ⟨.l 78, .p (.bin .gtr), [.l 77, .k (.m (.i .i64 5000))], some (.l 73, true)⟩,
      ⟨.l 79, .p .pick, [.l 73, .l 78, .k (.m (.b false))], none⟩,
      ⟨.v 70, .p .mv, [.l 79], none⟩])
    (.ite (.v 70)
      (.seq
      (.reg [⟨.v 2, .p .mv, [.k (.m (.nl 4))], none⟩,
        ⟨.v 3, .p .mv, [.k (.m (.b false))], none⟩])
      .ret)
      (.seq
      (.seq
      (.reg [⟨.v 12, .p .mv, [.k (.m (.i .i64 0))], none⟩])
      (.blk 3
      c29_L0))
      (.reg [⟨.l 61, .p .mv, [.v 5], none⟩,
        ⟨.l 62, .p .mv, [.v 7], none⟩,
        ⟨.l 63, .p (.bin .add), [.l 61, .l 62], none⟩,
        ⟨.v 5, .p .mv, [.l 63], none⟩])))))))
  (.seq
  (.seq
  (.reg [⟨.l 80, .p .mv, [.v 5], none⟩,
    ⟨.l 81, .p .mv, [.v 6], none⟩,
    ⟨.l 82, .p (.mm true), [.l 80, .l 81], none⟩,
    ⟨.v 83, .p (.bin .gtr), [.l 82, .k (.m (.i .i64 4194304))], none⟩])
  (.ite (.v 83)
    (.seq
    (.reg [⟨.v 2, .p .mv, [.k (.m (.nl 4))], none⟩,
      ⟨.v 3, .p .mv, [.k (.m (.b false))], none⟩])
    .ret)
    .skip))
  (.reg [⟨.v 7, .p .mv, [.k (.m (.i .i64 0))], none⟩,
    ⟨.v 8, .p .mv, [.k (.m (.i .i64 0))], none⟩]))))))))))
  (.reg [⟨.l 84, .p (.bin .add), [.v 15, .k (.m (.i .i64 1))], none⟩,
    ⟨.v 15, .p .mv, [.l 84], none⟩]))))
def c29_L1 : C := .loop [2, 3, 9, 10, 11, 12, 16, 26, 36, 40, 42, 49, 64, 83] c29_B1
def c29 : F := ⟨1, [.t 2, .t 3],
  (.seq
  (.reg [⟨.v 2, .p .mv, [.k (.m (.nl 4))], none⟩,
    ⟨.v 3, .p .mv, [.k (.m (.b false))], none⟩])
  (.seq
  (.reg [⟨.v 4, .p .mv, [.k (.m (.nl 4))], none⟩])
  (.seq
  (.reg [⟨.v 5, .p .mv, [.k (.m (.i .i64 0))], none⟩,
    ⟨.v 6, .p .mv, [.k (.m (.i .i64 0))], none⟩,
    ⟨.v 7, .p .mv, [.k (.m (.i .i64 0))], none⟩,
    ⟨.v 8, .p .mv, [.k (.m (.i .i64 0))], none⟩])
  (.seq
  (.seq
  (.reg [⟨.l 13, .p .mv, [.v 0], none⟩,
    ⟨.v 14, .p (.len true), [.l 13], none⟩,
    ⟨.v 15, .p .mv, [.k (.m (.i .i64 0))], none⟩])
  (.blk 0
  c29_L1))
  (.seq
  (.reg [⟨.l 85, .p .mv, [.v 4], none⟩,
    ⟨.l 86, .p .mv, [.v 8], none⟩,
    ⟨.l 87, .p (.bin .eql), [.l 86, .k (.m (.i .i64 0))], none⟩,
    ⟨.v 2, .p .mv, [.l 85], none⟩,
    ⟨.v 3, .p .mv, [.l 87], none⟩])
  .ret)))))⟩

/- cellular/pattern.From -/
def c30_B0 : C :=
  (.seq
  (.reg [⟨.v 11, .p (.bin .lss), [.v 10, .v 9], none⟩])
  (.seq
  (.ite (.v 11)
    .skip
    (.ex 0))
  (.seq
  (.blk 1
  (.seq
  (.reg [⟨.l 12, .p (.ixa 3), [.v 8, .v 10], none⟩,
    ⟨.l 13, .r (.ld true 3), [.l 12], none⟩,
    ⟨.v 6, .l (.alp 6 [.m (.i .i64 0), .m (.i .i64 0), .m (.i .i64 0)]), [], none⟩,
    ⟨.no, .l (.st 3), [.v 6, .l 13], none⟩])
  (.blk 2
  (.seq
  (.reg [⟨.l 15, .r (.ld true 3), [.v 6], none⟩,
    ⟨.l 16, .l (.cal 46), [.l 15], none⟩,
    ⟨.l 17, .l (.cal 45), [.l 16], none⟩,
    ⟨.l 18, .p (.un .not), [.l 17], none⟩,
    ⟨.v 14, .p .mv, [.l 18], none⟩])
  (.ite (.v 14)
    (.seq
    (.reg [⟨.v 2, .p .mv, [.k (.m (.nl 4))], none⟩,
      ⟨.v 3, .p .mv, [.k (.m (.i .i64 5))], none⟩])
    .ret)
    (.seq
    (.reg [⟨.l 20, .p (.fad 2), [.v 6], none⟩,
      ⟨.l 21, .r (.ld false 1), [.l 20], none⟩,
      ⟨.l 22, .p (.bin .lss), [.l 21, .k (.m (.i .i64 0))], none⟩,
      ⟨.l 23, .p .mv, [.l 22], none⟩,
      ⟨.l 24, .p (.fad 2), [.v 6], some (.l 23, false)⟩,
      ⟨.l 25, .r (.ld false 1), [.l 24], some (.l 23, false)⟩,
      ⟨.l 26, .p (.bin .geq), [.l 25, .k (.m (.i .i64 8))], some (.l 23, false)⟩,
      ⟨.l 27, .p .pick, [.l 23, .k (.m (.b true)), .l 26], none⟩,
      ⟨.v 19, .p .mv, [.l 27], none⟩])
    (.ite (.v 19)
      (.seq
      (.reg [⟨.v 2, .p .mv, [.k (.m (.nl 4))], none⟩,
        ⟨.v 3, .p .mv, [.k (.m (.i .i64 10))], none⟩])
      .ret)
      (.seq
      (.reg [⟨.l 29, .p (.fad 2), [.v 6], none⟩,
        ⟨.l 30, .r (.ld false 1), [.l 29], none⟩,
        ⟨.l 31, .p (.bin .gtr), [.l 30, .k (.m (.i .i64 0))], none⟩,
        ⟨.v 28, .p .mv, [.l 31], none⟩])
      (.ite (.v 28)
        (.reg [⟨.l 32, .p .mv, [.v 4], none⟩,
          ⟨.l 33, .r (.ld true 3), [.v 6], none⟩,
          ⟨.l 34, .p (.bsl 3 [.m (.i .i64 0), .m (.i .i64 0), .m (.i .i64 0)] 1 [0]), [.l 33], none⟩,
          ⟨.l 35, .l (.app 43 3 24), [.l 32, .l 34], none⟩,
          ⟨.v 4, .p .mv, [.l 35], none⟩])
        .skip)))))))))
  (.reg [⟨.l 36, .p (.bin .add), [.v 10, .k (.m (.i .i64 1))], none⟩,
    ⟨.v 10, .p .mv, [.l 36], none⟩]))))
def c30_L0 : C := .loop [0, 2, 3, 6, 11, 14, 19, 28] c30_B0
def c30_B1 : C :=
  (.seq
  (.seq
  (.reg [⟨.l 39, .p .mv, [.v 7], none⟩,
    ⟨.l 40, .p .mv, [.v 4], none⟩,
    ⟨.l 41, .p (.len false), [.l 40], none⟩,
    ⟨.v 42, .p (.bin .lss), [.l 39, .l 41], none⟩])
  (.ite (.v 42)
    .skip
    (.ex 3)))
  (.seq
  (.blk 4
  (.seq
  (.reg [⟨.l 45, .p .mv, [.v 4], none⟩,
    ⟨.l 46, .p .mv, [.v 7], none⟩,
    ⟨.l 47, .p (.bin .sub), [.l 46, .k (.m (.i .i64 1))], none⟩,
    ⟨.l 48, .p (.ixa 3), [.l 45, .l 47], none⟩,
    ⟨.l 49, .r (.ld true 3), [.l 48], none⟩,
    ⟨.l 50, .l (.cal 46), [.l 49], none⟩,
    ⟨.l 51, .p .mv, [.v 4], none⟩,
    ⟨.l 52, .p .mv, [.v 7], none⟩,
    ⟨.l 53, .p (.ixa 3), [.l 51, .l 52], none⟩,
    ⟨.l 54, .r (.ld true 3), [.l 53], none⟩,
    ⟨.l 55, .l (.cal 46), [.l 54], none⟩,
    ⟨.v 56, .p (.eqs false [1, 1]), [.l 50, .l 55], none⟩])
  (.ite (.v 56)
    (.seq
    (.reg [⟨.v 2, .p .mv, [.k (.m (.nl 4))], none⟩,
      ⟨.v 3, .p .mv, [.k (.m (.i .i64 8))], none⟩])
    .ret)
    .skip)))
  (.reg [⟨.l 43, .p .mv, [.v 7], none⟩,
    ⟨.l 44, .p (.bin .add), [.l 43, .k (.m (.i .i64 1))], none⟩,
    ⟨.v 7, .p .mv, [.l 44], none⟩])))
def c30_L1 : C := .loop [8, 9, 10, 11, 42, 56] c30_B1
def c30 : F := ⟨1, [.t 2, .t 3],
  (.seq
  (.reg [⟨.v 2, .p .mv, [.k (.m (.nl 4))], none⟩,
    ⟨.v 3, .p .mv, [.k (.m (.i .i64 0))], none⟩])
  (.seq
  (.reg [⟨.v 4, .p .mv, [.k (.m (.nl 4))], none⟩])
  (.seq
  (.seq
  (.reg [⟨.v 8, .p .mv, [.v 0], none⟩,
    ⟨.v 9, .p (.len false), [.v 8], none⟩,
    ⟨.v 10, .p .mv, [.k (.m (.i .i64 0))], none⟩])
  (.blk 0
  c30_L0))
  (.seq
  (.reg [⟨.l 37, .p .mv, [.v 4], none⟩,
    ⟨.l 38, .l (.cal 56), [.l 37, .k (.m (.fn 47 []))], none⟩])
  (.seq
  (.seq
  (.reg [⟨.v 7, .p .mv, [.k (.m (.i .i64 1))], none⟩])
  (.blk 3
  c30_L1))
  (.seq
  (.seq
  (.reg [⟨.l 57, .p .mv, [.v 4], none⟩,
    ⟨.l 58, .p (.len false), [.l 57], none⟩,
    ⟨.v 59, .p (.bin .gtr), [.l 58, .k (.m (.i .i64 5000))], none⟩])
  (.ite (.v 59)
    (.seq
    (.reg [⟨.v 2, .p .mv, [.k (.m (.nl 4))], none⟩,
      ⟨.v 3, .p .mv, [.k (.m (.i .i64 6))], none⟩])
    .ret)
    .skip))
  (.seq
  (.reg [⟨.l 60, .p .mv, [.v 4], none⟩,
    ⟨.v 2, .p .mv, [.l 60], none⟩,
    ⟨.v 3, .p .mv, [.k (.m (.i .i64 0))], none⟩])
  .ret)))))))⟩

/- slices.Clone[[]cellular/api.Cell,cellular/api.Cell] -/
def c31 : F := ⟨1, [.t 2],
  (.seq
  (.reg [⟨.v 2, .p .mv, [.k (.m (.nl 4))], none⟩])
  (.seq
  (.seq
  (.reg [⟨.l 3, .p .mv, [.v 0], none⟩,
    ⟨.v 4, .p (.eqn false 4), [.l 3], none⟩])
  (.ite (.v 4)
    (.seq
    (.reg [⟨.v 2, .p .mv, [.k (.m (.nl 4))], none⟩])
    .ret)
    .skip))
  (.seq
  (.reg [⟨.l 5, .p (.bsl 3 [.m (.i .i64 0), .m (.i .i64 0), .m (.i .i64 0)] 0 []), [], none⟩,
    ⟨.l 6, .p .mv, [.v 0], none⟩,
    ⟨.l 7, .l (.app 43 3 24), [.l 5, .l 6], none⟩,
    ⟨.v 2, .p .mv, [.l 7], none⟩])
  .ret)))⟩

/- cellular/cellularref05.Compare -/
def c32_B0 : C :=
  (.seq
  (.seq
  (.reg [⟨.l 6, .p .mv, [.v 5], none⟩,
    ⟨.l 7, .p .mv, [.v 0], none⟩,
    ⟨.l 8, .p (.len false), [.l 7], none⟩,
    ⟨.l 9, .p (.bin .lss), [.l 6, .l 8], none⟩,
    ⟨.l 10, .p .mv, [.l 9], none⟩,
    ⟨.l 11, .p .mv, [.v 5], some (.l 10, true)⟩,
    ⟨.l 12, .p .mv, [.v 1], some (.l 10, true)⟩,
    ⟨.l 13, .p (.len false), [.l 12], some (.l 10, true)⟩,
    ⟨.l 14, .p (.bin .lss), [.l 11, .l 13], some (.l 10, true)⟩,
    ⟨.v 15, .p .pick, [.l 10, .l 14, .k (.m (.b false))], none⟩])
  (.ite (.v 15)
    .skip
    (.ex 0)))
  (.seq
  (.blk 1
  (.seq
  (.seq
  (.reg [⟨.l 18, .p .mv, [.v 0], none⟩,
    ⟨.l 19, .p .mv, [.v 5], none⟩,
    ⟨.l 20, .p (.ixa 3), [.l 18, .l 19], none⟩,
    ⟨.l 21, .p (.fad 1), [.l 20], none⟩,
    ⟨.l 22, .r (.ld false 1), [.l 21], none⟩,
    ⟨.l 23, .p .mv, [.v 1], none⟩,
    ⟨.l 24, .p .mv, [.v 5], none⟩,
    ⟨.l 25, .p (.ixa 3), [.l 23, .l 24], none⟩,
    ⟨.l 26, .p (.fad 1), [.l 25], none⟩,
    ⟨.l 27, .r (.ld false 1), [.l 26], none⟩,
    ⟨.v 28, .p (.bin .neq), [.l 22, .l 27], none⟩])
  (.ite (.v 28)
    (.seq
    (.reg [⟨.l 29, .p .mv, [.v 0], none⟩,
      ⟨.l 30, .p .mv, [.v 5], none⟩,
      ⟨.l 31, .p (.ixa 3), [.l 29, .l 30], none⟩,
      ⟨.l 32, .p (.fad 1), [.l 31], none⟩,
      ⟨.l 33, .r (.ld false 1), [.l 32], none⟩,
      ⟨.l 34, .p .mv, [.v 1], none⟩,
      ⟨.l 35, .p .mv, [.v 5], none⟩,
      ⟨.l 36, .p (.ixa 3), [.l 34, .l 35], none⟩,
      ⟨.l 37, .p (.fad 1), [.l 36], none⟩,
      ⟨.l 38, .r (.ld false 1), [.l 37], none⟩,
      ⟨.l 39, .l (.cal 57), [.l 33, .l 38], none⟩,
      ⟨.v 4, .p .mv, [.l 39], none⟩])
    .ret)
    .skip))
  (.seq
  (.seq
  (.reg [⟨.l 40, .p .mv, [.v 0], none⟩,
    ⟨.l 41, .p .mv, [.v 5], none⟩,
    ⟨.l 42, .p (.ixa 3), [.l 40, .l 41], none⟩,
    ⟨.l 43, .p (.fad 0), [.l 42], none⟩,
    ⟨.l 44, .r (.ld false 1), [.l 43], none⟩,
    ⟨.l 45, .p .mv, [.v 1], none⟩,
    ⟨.l 46, .p .mv, [.v 5], none⟩,
    ⟨.l 47, .p (.ixa 3), [.l 45, .l 46], none⟩,
    ⟨.l 48, .p (.fad 0), [.l 47], none⟩,
    ⟨.l 49, .r (.ld false 1), [.l 48], none⟩,
    ⟨.v 50, .p (.bin .neq), [.l 44, .l 49], none⟩])
  (.ite (.v 50)
    (.seq
    (.reg [⟨.l 51, .p .mv, [.v 0], none⟩,
      ⟨.l 52, .p .mv, [.v 5], none⟩,
      ⟨.l 53, .p (.ixa 3), [.l 51, .l 52], none⟩,
      ⟨.l 54, .p (.fad 0), [.l 53], none⟩,
      ⟨.l 55, .r (.ld false 1), [.l 54], none⟩,
      ⟨.l 56, .p .mv, [.v 1], none⟩,
      ⟨.l 57, .p .mv, [.v 5], none⟩,
      ⟨.l 58, .p (.ixa 3), [.l 56, .l 57], none⟩,
      ⟨.l 59, .p (.fad 0), [.l 58], none⟩,
      ⟨.l 60, .r (.ld false 1), [.l 59], none⟩,
      ⟨.l 61, .l (.cal 57), [.l 55, .l 60], none⟩,
      ⟨.v 4, .p .mv, [.l 61], none⟩])
    .ret)
    .skip))
  (.seq
  (.reg [⟨.l 62, .p .mv, [.v 0], none⟩,
    ⟨.l 63, .p .mv, [.v 5], none⟩,
    ⟨.l 64, .p (.ixa 3), [.l 62, .l 63], none⟩,
    ⟨.l 65, .p (.fad 2), [.l 64], none⟩,
    ⟨.l 66, .r (.ld false 1), [.l 65], none⟩,
    ⟨.l 67, .p .mv, [.v 1], none⟩,
    ⟨.l 68, .p .mv, [.v 5], none⟩,
    ⟨.l 69, .p (.ixa 3), [.l 67, .l 68], none⟩,
    ⟨.l 70, .p (.fad 2), [.l 69], none⟩,
    ⟨.l 71, .r (.ld false 1), [.l 70], none⟩,
    ⟨.v 72, .p (.bin .neq), [.l 66, .l 71], none⟩])
  (.ite (.v 72)
    (.seq
    (.reg [⟨.l 73, .p .mv, [.v 0], none⟩,
      ⟨.l 74, .p .mv, [.v 5], none⟩,
      ⟨.l 75, .p (.ixa 3), [.l 73, .l 74], none⟩,
      ⟨.l 76, .p (.fad 2), [.l 75], none⟩,
      ⟨.l 77, .r (.ld false 1), [.l 76], none⟩,
      ⟨.l 78, .p .mv, [.v 1], none⟩,
      ⟨.l 79, .p .mv, [.v 5], none⟩,
      ⟨.l 80, .p (.ixa 3), [.l 78, .l 79], none⟩,
      ⟨.l 81, .p (.fad 2), [.l 80], none⟩,
      ⟨.l 82, .r (.ld false 1), [.l 81], none⟩,
      ⟨.l 83, .l (.cal 57), [.l 77, .l 82], none⟩,
      ⟨.v 4, .p .mv, [.l 83], none⟩])
    .ret)
    .skip)))))
  (.reg [⟨.l 16, .p .mv, [.v 5], none⟩,
    ⟨.l 17, .p (.bin .add), [.l 16, .k (.m (.i .i64 1))], none⟩,
    ⟨.v 5, .p .mv, [.l 17], none⟩])))
def c32_L0 : C := .loop [4, 15, 28, 50, 72] c32_B0
def c32 : F := ⟨2, [.t 4],
  (.seq
  (.reg [⟨.v 4, .p .mv, [.k (.m (.i .i64 0))], none⟩])
  (.seq
  (.seq
  (.reg [⟨.v 5, .p .mv, [.k (.m (.i .i64 0))], none⟩])
  (.blk 0
  c32_L0))
  (.seq
  (.reg [⟨.l 84, .p .mv, [.v 0], none⟩,
    ⟨.l 85, .p (.len false), [.l 84], none⟩,
    ⟨.l 86, .p .mv, [.v 1], none⟩,
    ⟨.l 87, .p (.len false), [.l 86], none⟩,
    ⟨.l 88, .l (.cal 57), [.l 85, .l 87], none⟩,
    ⟨.v 4, .p .mv, [.l 88], none⟩])
  .ret)))⟩

/- cellular/canon.images -/
def c33 : F := ⟨2, [.t 4],
  (.seq
  (.reg [⟨.v 2, .l (.bxs 23 1 1), [.v 0], none⟩,
    ⟨.v 3, .l (.bxs 33 1 1), [.v 1], none⟩,
    ⟨.v 4, .p .mv, [.k (.m (.nl 2))], none⟩])
  (.seq
  (.reg [⟨.l 5, .p (.mkf 58), [.v 3, .v 2], none⟩,
    ⟨.v 4, .p .mv, [.l 5], none⟩])
  .ret))⟩

/- cellular/symmetry.Group -/
def c34_B0 : C :=
  (.seq
  (.reg [⟨.v 17, .p (.bin .lss), [.v 16, .v 15], none⟩])
  (.seq
  (.ite (.v 17)
    .skip
    (.ex 0))
  (.seq
  (.blk 1
  (.seq
  (.reg [⟨.l 18, .p (.ixa 1), [.v 14, .v 16], none⟩,
    ⟨.l 19, .r (.ld false 1), [.l 18], none⟩,
    ⟨.v 5, .p .mv, [.l 19], none⟩])
  (.reg [⟨.l 20, .p .mv, [.v 5], none⟩,
    ⟨.l 21, .p (.bin .and), [.l 20, .k (.m (.i .i64 7))], none⟩,
    ⟨.l 22, .p (.ixaA 8 1), [.v 3, .l 21], none⟩,
    ⟨.no, .l (.st 1), [.l 22, .k (.m (.b true))], none⟩])))
  (.reg [⟨.l 23, .p (.bin .add), [.v 16, .k (.m (.i .i64 1))], none⟩,
    ⟨.v 16, .p .mv, [.l 23], none⟩]))))
def c34_L0 : C := .loop [0, 2, 5, 17] c34_B0
def c34_B1 : C :=
  (.seq
  (.reg [⟨.v 29, .p (.bin .lss), [.v 28, .k (.m (.i .i64 8))], none⟩])
  (.seq
  (.ite (.v 29)
    .skip
    (.ex 6))
  (.seq
  (.blk 7
  (.seq
  (.reg [⟨.l 30, .p .mv, [.v 28], none⟩,
    ⟨.v 8, .p .mv, [.l 30], none⟩])
  (.seq
  (.reg [⟨.l 31, .p .mv, [.v 7], none⟩,
    ⟨.l 32, .p .mv, [.v 8], none⟩,
    ⟨.l 33, .l (.cal 60), [.l 31, .l 32], none⟩,
    ⟨.v 9, .p .mv, [.l 33], none⟩])
  (.seq
  (.reg [⟨.l 34, .p .mv, [.v 7], none⟩,
    ⟨.l 35, .p (.ixaA 8 1), [.v 3, .l 34], none⟩,
    ⟨.l 36, .r (.ld false 1), [.l 35], none⟩,
    ⟨.l 37, .p .mv, [.l 36], none⟩,
    ⟨.l 38, .p .mv, [.v 8], some (.l 37, true)⟩,
    ⟨.l 39, .p (.ixaA 8 1), [.v 3, .l 38], some (.l 37, true)⟩,
    ⟨.l 40, .r (.ld false 1), [.l 39], some (.l 37, true)⟩,
    ⟨.l 41, .p .pick, [.l 37, .l 40, .k (.m (.b false))], none⟩,
    ⟨.l 42, .p .mv, [.l 41], none⟩,
    ⟨.l 43, .p .mv, [.v 9], some (.l 42, true)⟩,
    ⟨.l 44, .p (.ixaA 8 1), [.v 3, .l 43], some (.l 42, true)⟩,
    ⟨.l 45, .r (.ld false 1), [.l 44], some (.l 42, true)⟩,
    ⟨.l 46, .p (.un .not), [.l 45], some (.l 42, true)⟩,
    ⟨.v 47, .p .pick, [.l 42, .l 46, .k (.m (.b false))], none⟩])
  (.ite (.v 47)
    (.reg [⟨.l 48, .p .mv, [.v 9], none⟩,
      ⟨.l 49, .p (.ixaA 8 1), [.v 3, .l 48], none⟩,
      ⟨.no, .l (.st 1), [.l 49, .k (.m (.b true))], none⟩,
      ⟨.v 6, .p .mv, [.k (.m (.b true))], none⟩])
    .skip)))))
  (.reg [⟨.l 50, .p (.bin .add), [.v 28, .k (.m (.i .i64 1))], none⟩,
    ⟨.v 28, .p .mv, [.l 50], none⟩]))))
def c34_L1 : C := .loop [8, 9, 26, 29, 47] c34_B1
def c34_B2 : C :=
  (.seq
  (.reg [⟨.v 26, .p (.bin .lss), [.v 25, .k (.m (.i .i64 8))], none⟩])
  (.seq
  (.ite (.v 26)
    .skip
    (.ex 4))
  (.seq
  (.blk 5
  (.seq
  (.reg [⟨.l 27, .p .mv, [.v 25], none⟩,
    ⟨.v 7, .p .mv, [.l 27], none⟩])
  (.seq
  (.reg [⟨.v 28, .p .mv, [.k (.m (.i .i64 0))], none⟩])
  (.blk 6
  c34_L1))))
  (.reg [⟨.l 51, .p (.bin .add), [.v 25, .k (.m (.i .i64 1))], none⟩,
    ⟨.v 25, .p .mv, [.l 51], none⟩]))))
def c34_L2 : C := .loop [7, 24, 28, 29] c34_B2
def c34_B3 : C :=
  (.seq
  (.seq
  (.reg [⟨.v 24, .p .mv, [.v 6], none⟩])
  (.ite (.v 24)
    .skip
    (.ex 2)))
  (.blk 3
  (.seq
  (.reg [⟨.v 6, .p .mv, [.k (.m (.b false))], none⟩])
  (.seq
  (.reg [⟨.v 25, .p .mv, [.k (.m (.i .i64 0))], none⟩])
  (.blk 4
  c34_L2)))))
def c34_L3 : C := .loop [14, 15, 16, 17, 25, 26] c34_B3
def c34_B4 : C :=
  (.seq
  (.reg [⟨.v 54, .p (.bin .lss), [.v 53, .k (.m (.i .i64 8))], none⟩])
  (.seq
  (.ite (.v 54)
    .skip
    (.ex 8))
  (.seq
  (.blk 9
  (.seq
  (.reg [⟨.l 55, .p .mv, [.v 53], none⟩,
    ⟨.l 56, .p (.ixv 8 1 false), [.v 52, .v 53], none⟩,
    ⟨.v 11, .p .mv, [.l 55], none⟩,
    ⟨.v 12, .p .mv, [.l 56], none⟩])
  (.seq
  (.reg [⟨.v 57, .p .mv, [.v 12], none⟩])
  (.ite (.v 57)
    (.reg [⟨.l 58, .p .mv, [.v 10], none⟩,
      ⟨.l 59, .p .mv, [.v 11], none⟩,
      ⟨.l 60, .p (.bsl 1 [.m (.i .i64 0)] 1 [0]), [.l 59], none⟩,
      ⟨.l 61, .l (.app 3 1 8), [.l 58, .l 60], none⟩,
      ⟨.v 10, .p .mv, [.l 61], none⟩])
    .skip))))
  (.reg [⟨.l 62, .p (.bin .add), [.v 53, .k (.m (.i .i64 1))], none⟩,
    ⟨.v 53, .p .mv, [.l 62], none⟩]))))
def c34_L4 : C := .loop [3, 6, 11, 12, 24, 54, 57] c34_B4
def c34 : F := ⟨1, [.t 2],
  (.seq
  (.reg [⟨.v 2, .p .mv, [.k (.m (.nl 4))], none⟩])
  (.seq
  (.reg [⟨.v 3, .l (.alp 3 [.m (.b false), .m (.b false), .m (.b false), .m (.b false), .m (.b false), .m (.b false), .m (.b false), .m (.b false)]), [], none⟩])
  (.seq
  (.reg [⟨.l 13, .p (.ixaA 8 1), [.v 3, .k (.m (.i .i64 0))], none⟩,
    ⟨.no, .l (.st 1), [.l 13, .k (.m (.b true))], none⟩])
  (.seq
  (.seq
  (.reg [⟨.v 14, .p .mv, [.v 0], none⟩,
    ⟨.v 15, .p (.len false), [.v 14], none⟩,
    ⟨.v 16, .p .mv, [.k (.m (.i .i64 0))], none⟩])
  (.blk 0
  c34_L0))
  (.seq
  (.seq
  (.reg [⟨.v 6, .p .mv, [.k (.m (.b true))], none⟩])
  (.blk 2
  c34_L3))
  (.seq
  (.reg [⟨.v 10, .p .mv, [.k (.m (.nl 4))], none⟩])
  (.seq
  (.seq
  (.reg [⟨.v 52, .r (.ld true 8), [.v 3], none⟩,
    ⟨.v 53, .p .mv, [.k (.m (.i .i64 0))], none⟩])
  (.blk 8
  c34_L4))
  (.seq
  (.reg [⟨.l 63, .p .mv, [.v 10], none⟩,
    ⟨.v 2, .p .mv, [.l 63], none⟩])
  .ret))))))))⟩

/- cellular/pattern.Compare -/
def c35 : F := ⟨2, [.t 4],
  (.seq
  (.reg [⟨.v 4, .p .mv, [.k (.m (.i .i64 0))], none⟩])
  (.seq
  (.reg [⟨.l 5, .p .mv, [.v 0], none⟩,
    ⟨.l 6, .p .mv, [.v 1], none⟩,
    ⟨.l 7, .l (.cal 61), [.l 5, .l 6, .k (.m (.fn 62 []))], none⟩,
    ⟨.v 4, .p .mv, [.l 7], none⟩])
  .ret))⟩

/- cellular/cellularref04.Has -/
def c36_B0 : C :=
  (.seq
  (.seq
  (.reg [⟨.l 6, .p .mv, [.v 5], none⟩,
    ⟨.l 7, .p .mv, [.v 0], none⟩,
    ⟨.l 8, .p (.len false), [.l 7], none⟩,
    ⟨.v 9, .p (.bin .lss), [.l 6, .l 8], none⟩])
  (.ite (.v 9)
    .skip
    (.ex 0)))
  (.seq
  (.blk 1
  (.seq
  (.reg [⟨.l 12, .p .mv, [.v 0], none⟩,
    ⟨.l 13, .p .mv, [.v 5], none⟩,
    ⟨.l 14, .p (.ixa 1), [.l 12, .l 13], none⟩,
    ⟨.l 15, .r (.ld false 1), [.l 14], none⟩,
    ⟨.l 16, .p .mv, [.v 1], none⟩,
    ⟨.v 17, .p (.bin .eql), [.l 15, .l 16], none⟩])
  (.ite (.v 17)
    (.seq
    (.reg [⟨.v 4, .p .mv, [.k (.m (.b true))], none⟩])
    .ret)
    .skip)))
  (.reg [⟨.l 10, .p .mv, [.v 5], none⟩,
    ⟨.l 11, .p (.bin .add), [.l 10, .k (.m (.i .i64 1))], none⟩,
    ⟨.v 5, .p .mv, [.l 11], none⟩])))
def c36_L0 : C := .loop [4, 9, 17] c36_B0
def c36 : F := ⟨2, [.t 4],
  (.seq
  (.reg [⟨.v 4, .p .mv, [.k (.m (.b false))], none⟩])
  (.seq
  (.seq
  (.reg [⟨.v 5, .p .mv, [.k (.m (.i .i64 0))], none⟩])
  (.blk 0
  c36_L0))
  (.seq
  (.reg [⟨.v 4, .p .mv, [.k (.m (.b false))], none⟩])
  .ret)))⟩

/- cellular/cellularref04.Mod -/
def c37 : F := ⟨1, [.t 2],
  (.seq
  (.reg [⟨.v 2, .p .mv, [.k (.m (.i .i64 0))], none⟩])
  (.seq
  (.reg [⟨.l 3, .p .mv, [.v 0], none⟩,
    ⟨.l 4, .p (.bin .rem), [.l 3, .k (.m (.i .i64 8))], none⟩,
    ⟨.l 5, .p (.bin .add), [.l 4, .k (.m (.i .i64 8))], none⟩,
    ⟨.l 6, .p (.bin .rem), [.l 5, .k (.m (.i .i64 8))], none⟩,
    ⟨.v 2, .p .mv, [.l 6], none⟩])
  .ret))⟩

/- cellular/cellularref04.Compose -/
def c38 : F := ⟨2, [.t 4],
  (.seq
  (.reg [⟨.v 4, .p .mv, [.k (.m (.i .i64 0))], none⟩])
  (.seq
  (.reg [⟨.l 5, .p .mv, [.v 1], none⟩,
    ⟨.l 6, .p .mv, [.v 0], none⟩,
    ⟨.l 7, .p (.build [.m (.i .i64 0), .m (.i .i64 0)] [(0, 1), (1, 1)]), [.k (.m (.i .i64 1)), .k (.m (.i .i64 2))], none⟩,
    ⟨.l 8, .l (.cal 40), [.l 6, .l 7], none⟩,
    ⟨.l 9, .l (.cal 40), [.l 5, .l 8], none⟩,
    ⟨.l 10, .l (.cal 63), [.l 9], none⟩,
    ⟨.v 4, .p .mv, [.l 10], none⟩])
  .ret))⟩

/- cellular/cellularref05.Place -/
def c39 : F := ⟨2, [.t 4],
  (.seq
  (.reg [⟨.v 4, .p .mv, [.k (.m (.b false))], none⟩])
  (.seq
  (.reg [⟨.l 5, .p .mv, [.v 0], none⟩,
    ⟨.l 6, .p (.bin .geq), [.l 5, .k (.m (.i .i64 (-1048576)))], none⟩,
    ⟨.l 7, .p .mv, [.l 6], none⟩,
    ⟨.l 8, .p .mv, [.v 0], some (.l 7, true)⟩,
    ⟨.l 9, .p (.bin .leq), [.l 8, .k (.m (.i .i64 1048576))], some (.l 7, true)⟩,
    ⟨.l 10, .p .pick, [.l 7, .l 9, .k (.m (.b false))], none⟩,
    ⟨.l 11, .p .mv, [.l 10], none⟩,
    ⟨.l 12, .p .mv, [.v 1], some (.l 11, true)⟩,
    ⟨.l 13, .p (.bin .geq), [.l 12, .k (.m (.i .i64 (-1048576)))], some (.l 11, true)⟩,
    ⟨.l 14, .p .pick, [.l 11, .l 13, .k (.m (.b false))], none⟩,
    ⟨.l 15, .p .mv, [.l 14], none⟩,
    ⟨.l 16, .p .mv, [.v 1], some (.l 15, true)⟩,
    ⟨.l 17, .p (.bin .leq), [.l 16, .k (.m (.i .i64 1048576))], some (.l 15, true)⟩,
    ⟨.l 18, .p .pick, [.l 15, .l 17, .k (.m (.b false))], none⟩,
    ⟨.v 4, .p .mv, [.l 18], none⟩])
  .ret))⟩

/- cellular/cellularref04.Apply -/
def c40_B0 : C :=
  (.seq
  (.seq
  (.reg [⟨.l 18, .p .mv, [.v 5], none⟩,
    ⟨.l 19, .p .mv, [.v 0], none⟩,
    ⟨.v 20, .p (.bin .lss), [.l 18, .l 19], none⟩])
  (.ite (.v 20)
    .skip
    (.ex 0)))
  (.seq
  (.blk 1
  (.reg [⟨.l 23, .p (.fad 1), [.v 3], none⟩,
    ⟨.l 24, .r (.ld false 1), [.l 23], none⟩,
    ⟨.l 25, .p (.un .neg), [.l 24], none⟩,
    ⟨.l 26, .p (.fad 0), [.v 3], none⟩,
    ⟨.l 27, .r (.ld false 1), [.l 26], none⟩,
    ⟨.l 28, .p (.build [.m (.i .i64 0), .m (.i .i64 0)] [(0, 1), (1, 1)]), [.l 25, .l 27], none⟩,
    ⟨.no, .l (.st 2), [.v 3, .l 28], none⟩]))
  (.reg [⟨.l 21, .p .mv, [.v 5], none⟩,
    ⟨.l 22, .p (.bin .add), [.l 21, .k (.m (.i .i64 1))], none⟩,
    ⟨.v 5, .p .mv, [.l 22], none⟩])))
def c40_L0 : C := .loop [1, 9, 20] c40_B0
def c40 : F := ⟨2, [.c 4 2 true],
  (.seq
  (.reg [⟨.v 3, .l (.bxp 3 2), [.v 1], none⟩,
    ⟨.v 4, .l (.alp 4 [.m (.i .i64 0), .m (.i .i64 0)]), [], none⟩])
  (.seq
  (.reg [⟨.l 6, .p .mv, [.v 0], none⟩,
    ⟨.l 7, .l (.cal 37), [.l 6], none⟩,
    ⟨.v 0, .p .mv, [.l 7], none⟩])
  (.seq
  (.seq
  (.reg [⟨.l 8, .p .mv, [.v 0], none⟩,
    ⟨.v 9, .p (.bin .geq), [.l 8, .k (.m (.i .i64 4))], none⟩])
  (.ite (.v 9)
    (.seq
    (.reg [⟨.l 10, .p (.fad 0), [.v 3], none⟩,
      ⟨.l 11, .r (.ld false 1), [.l 10], none⟩,
      ⟨.l 12, .p (.un .neg), [.l 11], none⟩,
      ⟨.l 13, .p (.fad 1), [.v 3], none⟩,
      ⟨.l 14, .r (.ld false 1), [.l 13], none⟩,
      ⟨.l 15, .p (.build [.m (.i .i64 0), .m (.i .i64 0)] [(0, 1), (1, 1)]), [.l 12, .l 14], none⟩,
      ⟨.no, .l (.st 2), [.v 3, .l 15], none⟩])
    (.reg [⟨.l 16, .p .mv, [.v 0], none⟩,
      ⟨.l 17, .p (.bin .sub), [.l 16, .k (.m (.i .i64 4))], none⟩,
      ⟨.v 0, .p .mv, [.l 17], none⟩]))
    .skip))
  (.seq
  (.seq
  (.reg [⟨.v 5, .p .mv, [.k (.m (.i .i64 0))], none⟩])
  (.blk 0
  c40_L0))
  (.seq
  (.reg [⟨.l 29, .r (.ld true 2), [.v 3], none⟩,
    ⟨.no, .l (.st 2), [.v 4, .l 29], none⟩])
  .ret)))))⟩

/- cellular/cellularref05.From -/
def c41_B0 : C :=
  (.seq
  (.seq
  (.reg [⟨.l 8, .p .mv, [.v 5], none⟩,
    ⟨.l 9, .p .mv, [.v 0], none⟩,
    ⟨.l 10, .p (.len false), [.l 9], none⟩,
    ⟨.v 11, .p (.bin .lss), [.l 8, .l 10], none⟩])
  (.ite (.v 11)
    .skip
    (.ex 0)))
  (.seq
  (.blk 1
  (.seq
  (.seq
  (.reg [⟨.l 14, .p .mv, [.v 0], none⟩,
    ⟨.l 15, .p .mv, [.v 5], none⟩,
    ⟨.l 16, .p (.ixa 3), [.l 14, .l 15], none⟩,
    ⟨.l 17, .p (.fad 0), [.l 16], none⟩,
    ⟨.l 18, .r (.ld false 1), [.l 17], none⟩,
    ⟨.l 19, .p .mv, [.v 0], none⟩,
    ⟨.l 20, .p .mv, [.v 5], none⟩,
    ⟨.l 21, .p (.ixa 3), [.l 19, .l 20], none⟩,
    ⟨.l 22, .p (.fad 1), [.l 21], none⟩,
    ⟨.l 23, .r (.ld false 1), [.l 22], none⟩,
    ⟨.l 24, .l (.cal 39), [.l 18, .l 23], none⟩,
    ⟨.v 25, .p (.un .not), [.l 24], none⟩])
  (.ite (.v 25)
    (.seq
    (.reg [⟨.v 2, .p .mv, [.k (.m (.nl 4))], none⟩,
      ⟨.v 3, .p .mv, [.k (.m (.i .i64 5))], none⟩])
    .ret)
    .skip))
  (.seq
  (.reg [⟨.l 26, .p .mv, [.v 0], none⟩,
    ⟨.l 27, .p .mv, [.v 5], none⟩,
    ⟨.l 28, .p (.ixa 3), [.l 26, .l 27], none⟩,
    ⟨.l 29, .p (.fad 2), [.l 28], none⟩,
    ⟨.l 30, .r (.ld false 1), [.l 29], none⟩,
    ⟨.l 31, .p (.bin .lss), [.l 30, .k (.m (.i .i64 0))], none⟩,
    ⟨.l 32, .p .mv, [.l 31], none⟩,
    ⟨.l 33, .p .mv, [.v 0], some (.l 32, false)⟩,
    ⟨.l 34, .p .mv, [.v 5], some (.l 32, false)⟩,
    ⟨.l 35, .p (.ixa 3), [.l 33, .l 34], some (.l 32, false)⟩,
    ⟨.l 36, .p (.fad 2), [.l 35], some (.l 32, false)⟩,
    ⟨.l 37, .r (.ld false 1), [.l 36], some (.l 32, false)⟩,
    ⟨.l 38, .p (.bin .geq), [.l 37, .k (.m (.i .i64 8))], some (.l 32, false)⟩,
    ⟨.v 39, .p .pick, [.l 32, .k (.m (.b true)), .l 38], none⟩])
  (.ite (.v 39)
    (.seq
    (.reg [⟨.v 2, .p .mv, [.k (.m (.nl 4))], none⟩,
      ⟨.v 3, .p .mv, [.k (.m (.i .i64 10))], none⟩])
    .ret)
    .skip))))
  (.reg [⟨.l 12, .p .mv, [.v 5], none⟩,
    ⟨.l 13, .p (.bin .add), [.l 12, .k (.m (.i .i64 1))], none⟩,
    ⟨.v 5, .p .mv, [.l 13], none⟩])))
def c41_L0 : C := .loop [2, 3, 11, 25, 39] c41_B0
def c41_B1 : C :=
  (.seq
  (.seq
  (.reg [⟨.l 40, .p .mv, [.v 6], none⟩,
    ⟨.l 41, .p .mv, [.v 0], none⟩,
    ⟨.l 42, .p (.len false), [.l 41], none⟩,
    ⟨.v 43, .p (.bin .lss), [.l 40, .l 42], none⟩])
  (.ite (.v 43)
    .skip
    (.ex 2)))
  (.seq
  (.blk 3
  (.seq
  (.reg [⟨.l 46, .p .mv, [.v 0], none⟩,
    ⟨.l 47, .p .mv, [.v 6], none⟩,
    ⟨.l 48, .p (.ixa 3), [.l 46, .l 47], none⟩,
    ⟨.l 49, .p (.fad 2), [.l 48], none⟩,
    ⟨.l 50, .r (.ld false 1), [.l 49], none⟩,
    ⟨.v 51, .p (.bin .neq), [.l 50, .k (.m (.i .i64 0))], none⟩])
  (.ite (.v 51)
    (.reg [⟨.l 52, .p .mv, [.v 4], none⟩,
      ⟨.l 53, .p .mv, [.v 0], none⟩,
      ⟨.l 54, .p .mv, [.v 6], none⟩,
      ⟨.l 55, .p (.ixa 3), [.l 53, .l 54], none⟩,
      ⟨.l 56, .r (.ld true 3), [.l 55], none⟩,
      ⟨.l 57, .l (.cal 64), [.l 52, .l 56], none⟩,
      ⟨.v 4, .p .mv, [.l 57], none⟩])
    .skip)))
  (.reg [⟨.l 44, .p .mv, [.v 6], none⟩,
    ⟨.l 45, .p (.bin .add), [.l 44, .k (.m (.i .i64 1))], none⟩,
    ⟨.v 6, .p .mv, [.l 45], none⟩])))
def c41_L1 : C := .loop [5, 11, 43, 51] c41_B1
def c41_B2 : C :=
  (.seq
  (.seq
  (.reg [⟨.l 58, .p .mv, [.v 7], none⟩,
    ⟨.l 59, .p .mv, [.v 4], none⟩,
    ⟨.l 60, .p (.len false), [.l 59], none⟩,
    ⟨.v 61, .p (.bin .lss), [.l 58, .l 60], none⟩])
  (.ite (.v 61)
    .skip
    (.ex 4)))
  (.seq
  (.blk 5
  (.seq
  (.reg [⟨.l 64, .p .mv, [.v 4], none⟩,
    ⟨.l 65, .p .mv, [.v 7], none⟩,
    ⟨.l 66, .p (.bin .sub), [.l 65, .k (.m (.i .i64 1))], none⟩,
    ⟨.l 67, .p (.ixa 3), [.l 64, .l 66], none⟩,
    ⟨.l 68, .r (.ld true 3), [.l 67], none⟩,
    ⟨.l 69, .p .mv, [.v 4], none⟩,
    ⟨.l 70, .p .mv, [.v 7], none⟩,
    ⟨.l 71, .p (.ixa 3), [.l 69, .l 70], none⟩,
    ⟨.l 72, .r (.ld true 3), [.l 71], none⟩,
    ⟨.l 73, .l (.cal 42), [.l 68, .l 72], none⟩,
    ⟨.v 74, .p (.un .not), [.l 73], none⟩])
  (.ite (.v 74)
    (.seq
    (.reg [⟨.v 2, .p .mv, [.k (.m (.nl 4))], none⟩,
      ⟨.v 3, .p .mv, [.k (.m (.i .i64 8))], none⟩])
    .ret)
    .skip)))
  (.reg [⟨.l 62, .p .mv, [.v 7], none⟩,
    ⟨.l 63, .p (.bin .add), [.l 62, .k (.m (.i .i64 1))], none⟩,
    ⟨.v 7, .p .mv, [.l 63], none⟩])))
def c41_L2 : C := .loop [0, 6, 43, 61, 74] c41_B2
def c41 : F := ⟨1, [.t 2, .t 3],
  (.seq
  (.reg [⟨.v 2, .p .mv, [.k (.m (.nl 4))], none⟩,
    ⟨.v 3, .p .mv, [.k (.m (.i .i64 0))], none⟩])
  (.seq
  (.reg [⟨.v 4, .p .mv, [.k (.m (.nl 4))], none⟩])
  (.seq
  (.seq
  (.reg [⟨.v 5, .p .mv, [.k (.m (.i .i64 0))], none⟩])
  (.blk 0
  c41_L0))
  (.seq
  (.seq
  (.reg [⟨.v 6, .p .mv, [.k (.m (.i .i64 0))], none⟩])
  (.blk 2
  c41_L1))
  (.seq
  (.seq
  (.reg [⟨.v 7, .p .mv, [.k (.m (.i .i64 1))], none⟩])
  (.blk 4
  c41_L2))
  (.seq
  (.seq
  (.reg [⟨.l 75, .p .mv, [.v 4], none⟩,
    ⟨.l 76, .p (.len false), [.l 75], none⟩,
    ⟨.v 77, .p (.bin .gtr), [.l 76, .k (.m (.i .i64 5000))], none⟩])
  (.ite (.v 77)
    (.seq
    (.reg [⟨.v 2, .p .mv, [.k (.m (.nl 4))], none⟩,
      ⟨.v 3, .p .mv, [.k (.m (.i .i64 6))], none⟩])
    .ret)
    .skip))
  (.seq
  (.reg [⟨.l 78, .p .mv, [.v 4], none⟩,
    ⟨.v 2, .p .mv, [.l 78], none⟩,
    ⟨.v 3, .p .mv, [.k (.m (.i .i64 0))], none⟩])
  .ret)))))))⟩

/- cellular/cellularref05.before -/
def c42 : F := ⟨2, [.t 4],
  (.seq
  (.reg [⟨.v 2, .l (.bxp 2 3), [.v 0], none⟩,
    ⟨.v 3, .l (.bxp 3 3), [.v 1], none⟩,
    ⟨.v 4, .p .mv, [.k (.m (.b false))], none⟩])
  (.seq
  (.reg [⟨.l 5, .p (.fad 1), [.v 2], none⟩,
    ⟨.l 6, .r (.ld false 1), [.l 5], none⟩,
    ⟨.l 7, .p (.fad 1), [.v 3], none⟩,
    ⟨.l 8, .r (.ld false 1), [.l 7], none⟩,
    ⟨.l 9, .p (.bin .lss), [.l 6, .l 8], none⟩,
    ⟨.l 10, .p .mv, [.l 9], none⟩,
    ⟨.l 11, .p (.fad 1), [.v 2], some (.l 10, false)⟩,
    ⟨.l 12, .r (.ld false 1), [.l 11], some (.l 10, false)⟩,
    ⟨.l 13, .p (.fad 1), [.v 3], some (.l 10, false)⟩,
    ⟨.l 14, .r (.ld false 1), [.l 13], some (.l 10, false)⟩,
    ⟨.l 15, .p (.bin .eql), [.l 12, .l 14], some (.l 10, false)⟩,
    ⟨.l 16, .p .mv, [.l 15], some (.l 10, false)⟩,
    ⟨.l 17, .p (.fad 0), [.v 2], some (.l 16, true)⟩,
    ⟨.l 18, .r (.ld false 1), [.l 17], some (.l 16, true)⟩,
    ⟨.l 19, .p (.fad 0), [.v 3], some (.l 16, true)⟩,
    ⟨.l 20, .r (.ld false 1), [.l 19], some (.l 16, true)⟩,
    ⟨.l 21, .p (.bin .lss), [.l 18, .l 20], some (.l 16, true)⟩,
    ⟨.l 22, .p .pick, [.l 16, .l 21, .k (.m (.b false))], some (.l 10, false)⟩,
    ⟨.l 23, .p .pick, [.l 10, .k (.m (.b true)), .l 22], none⟩,
    ⟨.v 4, .p .mv, [.l 23], none⟩])
  .ret))⟩

/- cellular/pattern.Same -/
def c43 : F := ⟨2, [.t 4],
  (.seq
  (.reg [⟨.v 4, .p .mv, [.k (.m (.b false))], none⟩])
  (.seq
  (.reg [⟨.l 5, .p .mv, [.v 0], none⟩,
    ⟨.l 6, .p .mv, [.v 1], none⟩,
    ⟨.l 7, .l (.cal 65), [.l 5, .l 6], none⟩,
    ⟨.v 4, .p .mv, [.l 7], none⟩])
  .ret))⟩

/- cellular/cellularref05.Box -/
def c44_B0 : C :=
  (.seq
  (.seq
  (.reg [⟨.l 34, .p .mv, [.v 8], none⟩,
    ⟨.l 35, .p .mv, [.v 0], none⟩,
    ⟨.l 36, .p (.len false), [.l 35], none⟩,
    ⟨.v 37, .p (.bin .lss), [.l 34, .l 36], none⟩])
  (.ite (.v 37)
    .skip
    (.ex 0)))
  (.seq
  (.blk 1
  (.seq
  (.reg [⟨.l 40, .p .mv, [.v 4], none⟩,
    ⟨.l 41, .p .mv, [.v 0], none⟩,
    ⟨.l 42, .p .mv, [.v 8], none⟩,
    ⟨.l 43, .p (.ixa 3), [.l 41, .l 42], none⟩,
    ⟨.l 44, .p (.fad 0), [.l 43], none⟩,
    ⟨.l 45, .r (.ld false 1), [.l 44], none⟩,
    ⟨.l 46, .p (.mm false), [.l 40, .l 45], none⟩,
    ⟨.v 4, .p .mv, [.l 46], none⟩])
  (.seq
  (.reg [⟨.l 47, .p .mv, [.v 5], none⟩,
    ⟨.l 48, .p .mv, [.v 0], none⟩,
    ⟨.l 49, .p .mv, [.v 8], none⟩,
    ⟨.l 50, .p (.ixa 3), [.l 48, .l 49], none⟩,
    ⟨.l 51, .p (.fad 1), [.l 50], none⟩,
    ⟨.l 52, .r (.ld false 1), [.l 51], none⟩,
    ⟨.l 53, .p (.mm false), [.l 47, .l 52], none⟩,
    ⟨.v 5, .p .mv, [.l 53], none⟩])
  (.seq
  (.reg [⟨.l 54, .p .mv, [.v 6], none⟩,
    ⟨.l 55, .p .mv, [.v 0], none⟩,
    ⟨.l 56, .p .mv, [.v 8], none⟩,
    ⟨.l 57, .p (.ixa 3), [.l 55, .l 56], none⟩,
    ⟨.l 58, .p (.fad 0), [.l 57], none⟩,
    ⟨.l 59, .r (.ld false 1), [.l 58], none⟩,
    ⟨.l 60, .p (.mm true), [.l 54, .l 59], none⟩,
    ⟨.v 6, .p .mv, [.l 60], none⟩])
  (.reg [⟨.l 61, .p .mv, [.v 7], none⟩,
    ⟨.l 62, .p .mv, [.v 0], none⟩,
    ⟨.l 63, .p .mv, [.v 8], none⟩,
    ⟨.l 64, .p (.ixa 3), [.l 62, .l 63], none⟩,
    ⟨.l 65, .p (.fad 1), [.l 64], none⟩,
    ⟨.l 66, .r (.ld false 1), [.l 65], none⟩,
    ⟨.l 67, .p (.mm true), [.l 61, .l 66], none⟩,
    ⟨.v 7, .p .mv, [.l 67], none⟩])))))
  (.reg [⟨.l 38, .p .mv, [.v 8], none⟩,
    ⟨.l 39, .p (.bin .add), [.l 38, .k (.m (.i .i64 1))], none⟩,
    ⟨.v 8, .p .mv, [.l 39], none⟩])))
def c44_L0 : C := .loop [3, 16, 37] c44_B0
def c44 : F := ⟨1, [.c 2 4 true, .t 3],
  (.seq
  (.reg [⟨.v 2, .l (.alp 2 [.m (.i .i64 0), .m (.i .i64 0), .m (.i .i64 0), .m (.i .i64 0)]), [], none⟩,
    ⟨.v 3, .p .mv, [.k (.m (.b false))], none⟩])
  (.seq
  (.seq
  (.reg [⟨.l 9, .p .mv, [.v 0], none⟩,
    ⟨.l 10, .p (.len false), [.l 9], none⟩,
    ⟨.l 11, .p (.bin .eql), [.l 10, .k (.m (.i .i64 0))], none⟩,
    ⟨.l 12, .p .mv, [.l 11], none⟩,
    ⟨.l 13, .p .mv, [.v 0], some (.l 12, false)⟩,
    ⟨.l 14, .l (.cal 18), [.l 13], some (.l 12, false)⟩,
    ⟨.l 15, .p (.un .not), [.l 14], some (.l 12, false)⟩,
    ⟨.v 16, .p .pick, [.l 12, .k (.m (.b true)), .l 15], none⟩])
  (.ite (.v 16)
    (.seq
    (.reg [⟨.l 17, .p (.build [.m (.i .i64 0), .m (.i .i64 0), .m (.i .i64 0), .m (.i .i64 0)] []), [], none⟩,
      ⟨.no, .l (.st 4), [.v 2, .l 17], none⟩,
      ⟨.v 3, .p .mv, [.k (.m (.b false))], none⟩])
    .ret)
    .skip))
  (.seq
  (.reg [⟨.l 18, .p .mv, [.v 0], none⟩,
    ⟨.l 19, .p (.ixa 3), [.l 18, .k (.m (.i .i64 0))], none⟩,
    ⟨.l 20, .p (.fad 0), [.l 19], none⟩,
    ⟨.l 21, .r (.ld false 1), [.l 20], none⟩,
    ⟨.l 22, .p .mv, [.v 0], none⟩,
    ⟨.l 23, .p (.ixa 3), [.l 22, .k (.m (.i .i64 0))], none⟩,
    ⟨.l 24, .p (.fad 1), [.l 23], none⟩,
    ⟨.l 25, .r (.ld false 1), [.l 24], none⟩,
    ⟨.l 26, .p .mv, [.v 0], none⟩,
    ⟨.l 27, .p (.ixa 3), [.l 26, .k (.m (.i .i64 0))], none⟩,
    ⟨.l 28, .p (.fad 0), [.l 27], none⟩,
    ⟨.l 29, .r (.ld false 1), [.l 28], none⟩,
    ⟨.l 30, .p .mv, [.v 0], none⟩,
    ⟨.l 31, .p (.ixa 3), [.l 30, .k (.m (.i .i64 0))], none⟩,
    ⟨.l 32, .p (.fad 1), [.l 31], none⟩,
    ⟨.l 33, .r (.ld false 1), [.l 32], none⟩,
    ⟨.v 4, .p .mv, [.l 21], none⟩,
    ⟨.v 5, .p .mv, [.l 25], none⟩,
    ⟨.v 6, .p .mv, [.l 29], none⟩,
    ⟨.v 7, .p .mv, [.l 33], none⟩])
  (.seq
  (.seq
  (.reg [⟨.v 8, .p .mv, [.k (.m (.i .i64 0))], none⟩])
  (.blk 0
  c44_L0))
  (.seq
  (.reg [⟨.l 68, .p .mv, [.v 4], none⟩,
    ⟨.l 69, .p .mv, [.v 5], none⟩,
    ⟨.l 70, .p .mv, [.v 6], none⟩,
    ⟨.l 71, .p .mv, [.v 4], none⟩,
    ⟨.l 72, .p (.bin .sub), [.l 70, .l 71], none⟩,
    ⟨.l 73, .p (.bin .add), [.l 72, .k (.m (.i .i64 1))], none⟩,
    ⟨.l 74, .p .mv, [.v 7], none⟩,
    ⟨.l 75, .p .mv, [.v 5], none⟩,
    ⟨.l 76, .p (.bin .sub), [.l 74, .l 75], none⟩,
    ⟨.l 77, .p (.bin .add), [.l 76, .k (.m (.i .i64 1))], none⟩,
    ⟨.l 78, .p (.build [.m (.i .i64 0), .m (.i .i64 0), .m (.i .i64 0), .m (.i .i64 0)] [(0, 1), (1, 1), (2, 1), (3, 1)]), [.l 68, .l 69, .l 73, .l 77], none⟩,
    ⟨.no, .l (.st 4), [.v 2, .l 78], none⟩,
    ⟨.v 3, .p .mv, [.k (.m (.b true))], none⟩])
  .ret)))))⟩

/- cellular/pattern.placed -/
def c45 : F := ⟨1, [.t 2],
  (.seq
  (.reg [⟨.v 1, .l (.bxp 1 2), [.v 0], none⟩,
    ⟨.v 2, .p .mv, [.k (.m (.b false))], none⟩])
  (.seq
  (.reg [⟨.l 3, .p (.fad 0), [.v 1], none⟩,
    ⟨.l 4, .r (.ld false 1), [.l 3], none⟩,
    ⟨.l 5, .p (.fad 1), [.v 1], none⟩,
    ⟨.l 6, .r (.ld false 1), [.l 5], none⟩,
    ⟨.l 7, .p (.mm true), [.l 4, .l 6], none⟩,
    ⟨.l 8, .p (.bin .leq), [.l 7, .k (.m (.i .i64 1048576))], none⟩,
    ⟨.l 9, .p .mv, [.l 8], none⟩,
    ⟨.l 10, .p (.fad 0), [.v 1], some (.l 9, true)⟩,
    ⟨.l 11, .r (.ld false 1), [.l 10], some (.l 9, true)⟩,
    ⟨.l 12, .p (.fad 1), [.v 1], some (.l 9, true)⟩,
    ⟨.l 13, .r (.ld false 1), [.l 12], some (.l 9, true)⟩,
    ⟨.l 14, .p (.mm false), [.l 11, .l 13], some (.l 9, true)⟩,
    ⟨.l 15, .p (.bin .geq), [.l 14, .k (.m (.i .i64 (-1048576)))], some (.l 9, true)⟩,
    ⟨.l 16, .p .pick, [.l 9, .l 15, .k (.m (.b false))], none⟩,
    ⟨.v 2, .p .mv, [.l 16], none⟩])
  .ret))⟩

/- cellular/pattern.at -/
def c46 : F := ⟨1, [.c 2 2 true],
  (.seq
  (.reg [⟨.v 1, .l (.bxp 1 3), [.v 0], none⟩,
    ⟨.v 2, .l (.alp 2 [.m (.i .i64 0), .m (.i .i64 0)]), [], none⟩])
  (.seq
  (.reg [⟨.l 3, .p (.fad 0), [.v 1], none⟩,
    ⟨.l 4, .r (.ld false 1), [.l 3], none⟩,
    ⟨.l 5, .p (.fad 1), [.v 1], none⟩,
    ⟨.l 6, .r (.ld false 1), [.l 5], none⟩,
    ⟨.l 7, .p (.build [.m (.i .i64 0), .m (.i .i64 0)] [(0, 1), (1, 1)]), [.l 4, .l 6], none⟩,
    ⟨.no, .l (.st 2), [.v 2, .l 7], none⟩])
  .ret))⟩

/- cellular/pattern.order -/
def c47 : F := ⟨2, [.t 4],
  (.seq
  (.reg [⟨.v 2, .l (.bxp 2 3), [.v 0], none⟩,
    ⟨.v 3, .l (.bxp 3 3), [.v 1], none⟩,
    ⟨.v 4, .p .mv, [.k (.m (.i .i64 0))], none⟩])
  (.seq
  (.reg [⟨.l 5, .r (.ld true 3), [.v 2], none⟩,
    ⟨.l 6, .l (.cal 46), [.l 5], none⟩,
    ⟨.l 7, .r (.ld true 3), [.v 3], none⟩,
    ⟨.l 8, .l (.cal 46), [.l 7], none⟩,
    ⟨.l 9, .l (.cal 66), [.l 6, .l 8], none⟩,
    ⟨.v 4, .p .mv, [.l 9], none⟩])
  .ret))⟩

/- cellular/pattern.Box -/
def c48_B0 : C :=
  (.seq
  (.reg [⟨.v 29, .p (.bin .lss), [.v 28, .v 27], none⟩])
  (.seq
  (.ite (.v 29)
    .skip
    (.ex 0))
  (.seq
  (.blk 1
  (.seq
  (.reg [⟨.l 30, .p (.ixa 3), [.v 26, .v 28], none⟩,
    ⟨.l 31, .r (.ld true 3), [.l 30], none⟩,
    ⟨.v 7, .l (.alp 7 [.m (.i .i64 0), .m (.i .i64 0), .m (.i .i64 0)]), [], none⟩,
    ⟨.no, .l (.st 3), [.v 7, .l 31], none⟩])
  (.reg [⟨.l 32, .p .mv, [.v 4], none⟩,
    ⟨.l 33, .p (.fad 0), [.v 7], none⟩,
    ⟨.l 34, .r (.ld false 1), [.l 33], none⟩,
    ⟨.l 35, .p (.mm false), [.l 32, .l 34], none⟩,
    ⟨.l 36, .p .mv, [.v 5], none⟩,
    ⟨.l 37, .p (.fad 0), [.v 7], none⟩,
    ⟨.l 38, .r (.ld false 1), [.l 37], none⟩,
    ⟨.l 39, .p (.mm true), [.l 36, .l 38], none⟩,
    ⟨.v 4, .p .mv, [.l 35], none⟩,
    ⟨.v 5, .p .mv, [.l 39], none⟩])))
  (.reg [⟨.l 40, .p (.bin .add), [.v 28, .k (.m (.i .i64 1))], none⟩,
    ⟨.v 28, .p .mv, [.l 40], none⟩]))))
def c48_L0 : C := .loop [3, 7, 16, 29] c48_B0
def c48 : F := ⟨1, [.c 2 4 true, .t 3],
  (.seq
  (.reg [⟨.v 2, .l (.alp 2 [.m (.i .i64 0), .m (.i .i64 0), .m (.i .i64 0), .m (.i .i64 0)]), [], none⟩,
    ⟨.v 3, .p .mv, [.k (.m (.b false))], none⟩])
  (.seq
  (.seq
  (.reg [⟨.l 9, .p .mv, [.v 0], none⟩,
    ⟨.l 10, .p (.len false), [.l 9], none⟩,
    ⟨.l 11, .p (.bin .eql), [.l 10, .k (.m (.i .i64 0))], none⟩,
    ⟨.l 12, .p .mv, [.l 11], none⟩,
    ⟨.l 13, .p .mv, [.v 0], some (.l 12, false)⟩,
    ⟨.l 14, .l (.cal 24), [.l 13], some (.l 12, false)⟩,
    ⟨.l 15, .p (.un .not), [.l 14], some (.l 12, false)⟩,
    ⟨.v 16, .p .pick, [.l 12, .k (.m (.b true)), .l 15], none⟩])
  (.ite (.v 16)
    (.seq
    (.reg [⟨.l 17, .p (.build [.m (.i .i64 0), .m (.i .i64 0), .m (.i .i64 0), .m (.i .i64 0)] []), [], none⟩,
      ⟨.no, .l (.st 4), [.v 2, .l 17], none⟩,
      ⟨.v 3, .p .mv, [.k (.m (.b false))], none⟩])
    .ret)
    .skip))
  (.seq
  (.reg [⟨.l 18, .p .mv, [.v 0], none⟩,
    ⟨.l 19, .p (.ixa 3), [.l 18, .k (.m (.i .i64 0))], none⟩,
    ⟨.l 20, .p (.fad 0), [.l 19], none⟩,
    ⟨.l 21, .r (.ld false 1), [.l 20], none⟩,
    ⟨.l 22, .p .mv, [.v 0], none⟩,
    ⟨.l 23, .p (.ixa 3), [.l 22, .k (.m (.i .i64 0))], none⟩,
    ⟨.l 24, .p (.fad 0), [.l 23], none⟩,
    ⟨.l 25, .r (.ld false 1), [.l 24], none⟩,
    ⟨.v 4, .p .mv, [.l 21], none⟩,
    ⟨.v 5, .p .mv, [.l 25], none⟩])
  (.seq
  (.seq
  (.reg [⟨.v 26, .p .mv, [.v 0], none⟩,
    ⟨.v 27, .p (.len false), [.v 26], none⟩,
    ⟨.v 28, .p .mv, [.k (.m (.i .i64 0))], none⟩])
  (.blk 0
  c48_L0))
  (.seq
  (.reg [⟨.l 41, .p .mv, [.v 0], none⟩,
    ⟨.l 42, .p (.ixa 3), [.l 41, .k (.m (.i .i64 0))], none⟩,
    ⟨.l 43, .p (.fad 1), [.l 42], none⟩,
    ⟨.l 44, .r (.ld false 1), [.l 43], none⟩,
    ⟨.v 8, .p .mv, [.l 44], none⟩])
  (.seq
  (.reg [⟨.l 45, .p .mv, [.v 4], none⟩,
    ⟨.l 46, .p .mv, [.v 8], none⟩,
    ⟨.l 47, .p .mv, [.v 5], none⟩,
    ⟨.l 48, .p .mv, [.v 4], none⟩,
    ⟨.l 49, .p (.bin .sub), [.l 47, .l 48], none⟩,
    ⟨.l 50, .p (.bin .add), [.l 49, .k (.m (.i .i64 1))], none⟩,
    ⟨.l 51, .p .mv, [.v 0], none⟩,
    ⟨.l 52, .p .mv, [.v 0], none⟩,
    ⟨.l 53, .p (.len false), [.l 52], none⟩,
    ⟨.l 54, .p (.bin .sub), [.l 53, .k (.m (.i .i64 1))], none⟩,
    ⟨.l 55, .p (.ixa 3), [.l 51, .l 54], none⟩,
    ⟨.l 56, .p (.fad 1), [.l 55], none⟩,
    ⟨.l 57, .r (.ld false 1), [.l 56], none⟩,
    ⟨.l 58, .p .mv, [.v 8], none⟩,
    ⟨.l 59, .p (.bin .sub), [.l 57, .l 58], none⟩,
    ⟨.l 60, .p (.bin .add), [.l 59, .k (.m (.i .i64 1))], none⟩,
    ⟨.l 61, .p (.build [.m (.i .i64 0), .m (.i .i64 0), .m (.i .i64 0), .m (.i .i64 0)] [(0, 1), (1, 1), (2, 1), (3, 1)]), [.l 45, .l 46, .l 50, .l 60], none⟩,
    ⟨.no, .l (.st 4), [.v 2, .l 61], none⟩,
    ⟨.v 3, .p .mv, [.k (.m (.b true))], none⟩])
  .ret))))))⟩

/- cellular/canon.code$1 -/
def c49 : F := ⟨5, [],
  (.seq
  (.seq
  (.reg [⟨.l 7, .p .mv, [.v 1], none⟩,
    ⟨.l 8, .r (.ld false 1), [.v 2], none⟩,
    ⟨.v 9, .p (.bin .eql), [.l 7, .l 8], none⟩])
  (.ite (.v 9)
    (.seq
    (.reg [⟨.l 10, .r (.ld false 1), [.v 3], none⟩,
      ⟨.l 11, .p .mv, [.v 0], none⟩,
      ⟨.l 12, .p (.bin .add), [.l 10, .l 11], none⟩,
      ⟨.no, .l (.st 1), [.v 3, .l 12], none⟩])
    .ret)
    .skip))
  (.seq
  (.seq
  (.reg [⟨.l 13, .r (.ld false 1), [.v 2], none⟩,
    ⟨.v 14, .p (.bin .geq), [.l 13, .k (.m (.i .i64 0))], none⟩])
  (.ite (.v 14)
    (.seq
    (.seq
    (.reg [⟨.l 15, .r (.ld false 1), [.v 3], none⟩,
      ⟨.v 16, .p (.bin .gtr), [.l 15, .k (.m (.i .i64 1))], none⟩])
    (.ite (.v 16)
      (.reg [⟨.l 17, .r (.ld false 1), [.v 3], none⟩,
        ⟨.l 18, .l (.cal 51), [.l 17], none⟩,
        ⟨.l 19, .l (.cal 50), [.v 4, .l 18], none⟩])
      .skip))
    (.reg [⟨.l 20, .r (.ld false 1), [.v 2], none⟩,
      ⟨.l 21, .p .ixs, [.k (.m (.s [46, 65, 66, 67, 68, 69, 70, 71, 36])), .l 20], none⟩,
      ⟨.l 22, .l (.cal 52), [.v 4, .l 21], none⟩]))
    .skip))
  (.reg [⟨.l 23, .p .mv, [.v 0], none⟩,
    ⟨.l 24, .p .mv, [.v 1], none⟩,
    ⟨.no, .l (.st 1), [.v 3, .l 23], none⟩,
    ⟨.no, .l (.st 1), [.v 2, .l 24], none⟩])))⟩

/- (*strings.Builder).WriteString -/
def c50 : F := ⟨2, [.t 4, .t 5],
  (.seq
  (.reg [⟨.v 4, .p .mv, [.k (.m (.i .i64 0))], none⟩,
    ⟨.v 5, .p .mv, [.k (.m (.nl 3))], none⟩])
  (.seq
  (.reg [⟨.l 6, .p .mv, [.v 0], none⟩,
    ⟨.l 7, .l (.cal 67), [.l 6], none⟩])
  (.seq
  (.reg [⟨.l 8, .p .mv, [.v 0], none⟩,
    ⟨.l 9, .p .mv, [.v 0], none⟩,
    ⟨.l 10, .p .nck, [.l 9], none⟩,
    ⟨.l 11, .p (.fad 1), [.l 10], none⟩,
    ⟨.l 12, .r (.ld false 1), [.l 11], none⟩,
    ⟨.l 13, .p .mv, [.v 1], none⟩,
    ⟨.l 14, .l (.app 5 1 1), [.l 12, .l 13], none⟩,
    ⟨.l 15, .p .nck, [.l 8], none⟩,
    ⟨.l 16, .p (.fad 1), [.l 15], none⟩,
    ⟨.no, .l (.st 1), [.l 16, .l 14], none⟩])
  (.seq
  (.reg [⟨.l 17, .p .mv, [.v 1], none⟩,
    ⟨.l 18, .p (.len true), [.l 17], none⟩,
    ⟨.v 4, .p .mv, [.l 18], none⟩,
    ⟨.v 5, .p .mv, [.k (.m (.nl 3))], none⟩])
  .ret))))⟩

/- strconv.Itoa -/
def c51 : F := ⟨1, [.t 2],
  (.seq
  (.reg [⟨.v 2, .p .mv, [.k (.m (.s []))], none⟩])
  (.seq
  (.reg [⟨.l 3, .p .mv, [.v 0], none⟩,
    ⟨.l 4, .l (.cal 68), [.l 3], none⟩,
    ⟨.v 2, .p .mv, [.l 4], none⟩])
  .ret))⟩

/- (*strings.Builder).WriteByte -/
def c52 : F := ⟨2, [.t 4],
  (.seq
  (.reg [⟨.v 4, .p .mv, [.k (.m (.nl 3))], none⟩])
  (.seq
  (.reg [⟨.l 5, .p .mv, [.v 0], none⟩,
    ⟨.l 6, .l (.cal 67), [.l 5], none⟩])
  (.seq
  (.reg [⟨.l 7, .p .mv, [.v 0], none⟩,
    ⟨.l 8, .p .mv, [.v 0], none⟩,
    ⟨.l 9, .p .nck, [.l 8], none⟩,
    ⟨.l 10, .p (.fad 1), [.l 9], none⟩,
    ⟨.l 11, .r (.ld false 1), [.l 10], none⟩,
    ⟨.l 12, .p .mv, [.v 1], none⟩,
    ⟨.l 13, .p (.bsl 1 [.m (.i .u8 0)] 1 [0]), [.l 12], none⟩,
    ⟨.l 14, .l (.app 5 1 1), [.l 11, .l 13], none⟩,
    ⟨.l 15, .p .nck, [.l 7], none⟩,
    ⟨.l 16, .p (.fad 1), [.l 15], none⟩,
    ⟨.no, .l (.st 1), [.l 16, .l 14], none⟩])
  (.seq
  (.reg [⟨.v 4, .p .mv, [.k (.m (.nl 3))], none⟩])
  .ret))))⟩

/- (*strings.Builder).String -/
def c53 : F := ⟨1, [.t 2],
  (.seq
  (.reg [⟨.v 2, .p .mv, [.k (.m (.s []))], none⟩])
  (.seq
  (.reg [⟨.l 3, .p .mv, [.v 0], none⟩,
    ⟨.l 4, .p .nck, [.l 3], none⟩,
    ⟨.l 5, .p (.fad 1), [.l 4], none⟩,
    ⟨.l 6, .r (.ld false 1), [.l 5], none⟩,
    ⟨.l 7, .p .usd, [.l 6], none⟩,
    ⟨.l 8, .p .mv, [.v 0], none⟩,
    ⟨.l 9, .p .nck, [.l 8], none⟩,
    ⟨.l 10, .p (.fad 1), [.l 9], none⟩,
    ⟨.l 11, .r (.ld false 1), [.l 10], none⟩,
    ⟨.l 12, .p (.len false), [.l 11], none⟩,
    ⟨.l 13, .l (.ust 5), [.l 7, .l 12], none⟩,
    ⟨.v 2, .p .mv, [.l 13], none⟩])
  .ret))⟩

/- cellular/cellularref33.piece -/
def c54 : F := ⟨2, [.t 4],
  (.seq
  (.reg [⟨.v 4, .p .mv, [.k (.m (.s []))], none⟩])
  (.seq
  (.seq
  (.reg [⟨.l 5, .p .mv, [.v 0], none⟩,
    ⟨.v 6, .p (.bin .eql), [.l 5, .k (.m (.i .i64 1))], none⟩])
  (.ite (.v 6)
    (.seq
    (.reg [⟨.l 7, .p .mv, [.v 1], none⟩,
      ⟨.v 4, .p .mv, [.l 7], none⟩])
    .ret)
    .skip))
  (.seq
  (.reg [⟨.l 8, .p .mv, [.v 0], none⟩,
    ⟨.l 9, .l (.cal 69), [.l 8], none⟩,
    ⟨.l 10, .p .mv, [.v 1], none⟩,
    ⟨.l 11, .p (.bin .add), [.l 9, .l 10], none⟩,
    ⟨.v 4, .p .mv, [.l 11], none⟩])
  .ret)))⟩

/- strings.IndexByte -/
def c55 : F := ⟨2, [.t 4],
  (.seq
  (.reg [⟨.v 4, .p .mv, [.k (.m (.i .i64 0))], none⟩])
  (.seq
  (.reg [⟨.l 5, .p .mv, [.v 0], none⟩,
    ⟨.l 6, .p .mv, [.v 1], none⟩,
    ⟨.l 7, .l (.cal 70), [.l 5, .l 6], none⟩,
    ⟨.v 4, .p .mv, [.l 7], none⟩])
  .ret))⟩

/- slices.SortFunc[cellular/api.Pattern,cellular/api.Cell] -/
def c56 : F := ⟨2, [],
  (.seq
  (.reg [⟨.l 5, .p .mv, [.v 0], none⟩,
    ⟨.l 6, .p (.len false), [.l 5], none⟩,
    ⟨.v 4, .p .mv, [.l 6], none⟩])
  (.reg [⟨.l 7, .p .mv, [.v 0], none⟩,
    ⟨.l 8, .p .mv, [.v 4], none⟩,
    ⟨.l 9, .p .mv, [.v 4], none⟩,
    ⟨.l 10, .p (.cv .u64), [.l 9], none⟩,
    ⟨.l 11, .l (.cal 72), [.l 10], none⟩,
    ⟨.l 12, .p .mv, [.v 1], none⟩,
    ⟨.l 13, .l (.cal 71), [.l 7, .k (.m (.i .i64 0)), .l 8, .l 11, .l 12], none⟩]))⟩

/- cellular/cellularref05.order -/
def c57 : F := ⟨2, [.t 4],
  (.seq
  (.reg [⟨.v 4, .p .mv, [.k (.m (.i .i64 0))], none⟩])
  (.seq
  (.seq
  (.reg [⟨.l 5, .p .mv, [.v 0], none⟩,
    ⟨.l 6, .p .mv, [.v 1], none⟩,
    ⟨.v 7, .p (.bin .lss), [.l 5, .l 6], none⟩])
  (.ite (.v 7)
    (.seq
    (.reg [⟨.v 4, .p .mv, [.k (.m (.i .i64 (-1)))], none⟩])
    .ret)
    .skip))
  (.seq
  (.seq
  (.reg [⟨.l 8, .p .mv, [.v 0], none⟩,
    ⟨.l 9, .p .mv, [.v 1], none⟩,
    ⟨.v 10, .p (.bin .gtr), [.l 8, .l 9], none⟩])
  (.ite (.v 10)
    (.seq
    (.reg [⟨.v 4, .p .mv, [.k (.m (.i .i64 1))], none⟩])
    .ret)
    .skip))
  (.seq
  (.reg [⟨.v 4, .p .mv, [.k (.m (.i .i64 0))], none⟩])
  .ret))))⟩

/- cellular/canon.images$1 -/
def c58_B0 : C :=
  (.seq
  (.reg [⟨.v 9, .p (.bin .lss), [.v 8, .v 7], none⟩])
  (.seq
  (.ite (.v 9)
    .skip
    (.ex 0))
  (.seq
  (.blk 1
  (.seq
  (.reg [⟨.l 10, .p (.ixa 1), [.v 6, .v 8], none⟩,
    ⟨.l 11, .r (.ld false 1), [.l 10], none⟩,
    ⟨.v 5, .p .mv, [.l 11], none⟩])
  (.seq
  (.reg [⟨.l 12, .p .mv, [.v 0], none⟩,
    ⟨.l 13, .p .mv, [.v 5], none⟩,
    ⟨.l 14, .r (.ld false 1), [.v 2], none⟩,
    ⟨.l 15, .p .mv, [.v 5], none⟩,
    ⟨.l 16, .l (.cal 59), [.l 14, .l 15], none⟩,
    ⟨.l 17, .l .cav, [.l 12, .l 13, .l 16], none⟩,
    ⟨.v 18, .p (.un .not), [.l 17], none⟩])
  (.ite (.v 18)
    .ret
    .skip))))
  (.reg [⟨.l 19, .p (.bin .add), [.v 8, .k (.m (.i .i64 1))], none⟩,
    ⟨.v 8, .p .mv, [.l 19], none⟩]))))
def c58_L0 : C := .loop [1, 5, 9, 18] c58_B0
def c58 : F := ⟨3, [],
  (.seq
  (.reg [⟨.v 6, .r (.ld false 1), [.v 1], none⟩,
    ⟨.v 7, .p (.len false), [.v 6], none⟩,
    ⟨.v 8, .p .mv, [.k (.m (.i .i64 0))], none⟩])
  (.blk 0
  c58_L0))⟩

/- cellular/canon.image -/
def c59 : F := ⟨2, [.t 4],
  (.seq
  (.reg [⟨.v 4, .p .mv, [.k (.m (.nl 4))], none⟩])
  (.seq
  (.reg [⟨.l 8, .p .mv, [.v 1], none⟩,
    ⟨.l 9, .p .mv, [.v 0], none⟩,
    ⟨.l 10, .l (.cal 73), [.l 8, .l 9], none⟩,
    ⟨.l 7, .p .mv, [.l 10], none⟩,
    ⟨.l 11, .p (.ext 0), [.l 7], none⟩,
    ⟨.l 12, .p (.ext 1), [.l 7], none⟩,
    ⟨.v 5, .p .mv, [.l 11], none⟩,
    ⟨.l 6, .p .mv, [.l 12], none⟩])
  (.seq
  (.reg [⟨.l 13, .p .mv, [.v 5], none⟩,
    ⟨.l 14, .l (.cal 27), [.l 13], none⟩,
    ⟨.v 4, .p .mv, [.l 14], none⟩])
  .ret)))⟩

/- cellular/symmetry.Compose -/
def c60 : F := ⟨2, [.t 4],
  (.seq
  (.reg [⟨.v 4, .p .mv, [.k (.m (.i .i64 0))], none⟩])
  (.seq
  (.reg [⟨.l 7, .p .mv, [.v 1], none⟩,
    ⟨.l 8, .p .mv, [.v 0], none⟩,
    ⟨.l 9, .p (.build [.m (.i .i64 0), .m (.i .i64 0)] [(0, 1)]), [.k (.m (.i .i64 1))], none⟩,
    ⟨.l 10, .l (.cal 74), [.l 8, .l 9], none⟩,
    ⟨.l 11, .l (.cal 74), [.l 7, .l 10], none⟩,
    ⟨.v 5, .l (.alp 5 [.m (.i .i64 0), .m (.i .i64 0)]), [], none⟩,
    ⟨.no, .l (.st 2), [.v 5, .l 11], none⟩])
  (.seq
  (.reg [⟨.l 12, .p .mv, [.v 1], none⟩,
    ⟨.l 13, .p .mv, [.v 0], none⟩,
    ⟨.l 14, .p (.build [.m (.i .i64 0), .m (.i .i64 0)] [(1, 1)]), [.k (.m (.i .i64 1))], none⟩,
    ⟨.l 15, .l (.cal 74), [.l 13, .l 14], none⟩,
    ⟨.l 16, .l (.cal 74), [.l 12, .l 15], none⟩,
    ⟨.v 6, .l (.alp 6 [.m (.i .i64 0), .m (.i .i64 0)]), [], none⟩,
    ⟨.no, .l (.st 2), [.v 6, .l 16], none⟩])
  (.seq
  (.reg [⟨.l 17, .r (.slcA 8 4 false false false), [.k (.m (.pt g0))], none⟩,
    ⟨.l 18, .p (.fad 0), [.v 5], none⟩,
    ⟨.l 19, .r (.ld false 1), [.l 18], none⟩,
    ⟨.l 20, .p (.fad 0), [.v 6], none⟩,
    ⟨.l 21, .r (.ld false 1), [.l 20], none⟩,
    ⟨.l 22, .p (.fad 1), [.v 5], none⟩,
    ⟨.l 23, .r (.ld false 1), [.l 22], none⟩,
    ⟨.l 24, .p (.fad 1), [.v 6], none⟩,
    ⟨.l 25, .r (.ld false 1), [.l 24], none⟩,
    ⟨.l 26, .p (.build [.m (.i .i64 0), .m (.i .i64 0), .m (.i .i64 0), .m (.i .i64 0)] [(0, 1), (1, 1), (2, 1), (3, 1)]), [.l 19, .l 21, .l 23, .l 25], none⟩,
    ⟨.l 27, .l (.cal 75), [.l 17, .l 26], none⟩,
    ⟨.v 4, .p .mv, [.l 27], none⟩])
  .ret))))⟩

/- slices.CompareFunc[cellular/api.Pattern,cellular/api.Pattern,cellular/api.Cell,cellular/api.Cell] -/
def c61_B0 : C :=
  (.seq
  (.reg [⟨.v 14, .p (.bin .lss), [.v 13, .v 12], none⟩])
  (.seq
  (.ite (.v 14)
    .skip
    (.ex 0))
  (.seq
  (.blk 1
  (.seq
  (.reg [⟨.l 15, .p .mv, [.v 13], none⟩,
    ⟨.l 16, .p (.ixa 3), [.v 11, .v 13], none⟩,
    ⟨.l 17, .r (.ld true 3), [.l 16], none⟩,
    ⟨.v 8, .l (.alp 8 [.m (.i .i64 0), .m (.i .i64 0), .m (.i .i64 0)]), [], none⟩,
    ⟨.v 7, .p .mv, [.l 15], none⟩,
    ⟨.no, .l (.st 3), [.v 8, .l 17], none⟩])
  (.seq
  (.seq
  (.reg [⟨.l 18, .p .mv, [.v 7], none⟩,
    ⟨.l 19, .p .mv, [.v 1], none⟩,
    ⟨.l 20, .p (.len false), [.l 19], none⟩,
    ⟨.v 21, .p (.bin .geq), [.l 18, .l 20], none⟩])
  (.ite (.v 21)
    (.seq
    (.reg [⟨.v 6, .p .mv, [.k (.m (.i .i64 1))], none⟩])
    .ret)
    .skip))
  (.seq
  (.reg [⟨.l 22, .p .mv, [.v 1], none⟩,
    ⟨.l 23, .p .mv, [.v 7], none⟩,
    ⟨.l 24, .p (.ixa 3), [.l 22, .l 23], none⟩,
    ⟨.l 25, .r (.ld true 3), [.l 24], none⟩,
    ⟨.v 9, .l (.alp 9 [.m (.i .i64 0), .m (.i .i64 0), .m (.i .i64 0)]), [], none⟩,
    ⟨.no, .l (.st 3), [.v 9, .l 25], none⟩])
  (.seq
  (.reg [⟨.l 26, .p .mv, [.v 2], none⟩,
    ⟨.l 27, .r (.ld true 3), [.v 8], none⟩,
    ⟨.l 28, .r (.ld true 3), [.v 9], none⟩,
    ⟨.l 29, .l .cav, [.l 26, .l 27, .l 28], none⟩,
    ⟨.v 10, .p .mv, [.l 29], none⟩])
  (.seq
  (.reg [⟨.l 30, .p .mv, [.v 10], none⟩,
    ⟨.v 31, .p (.bin .neq), [.l 30, .k (.m (.i .i64 0))], none⟩])
  (.ite (.v 31)
    (.seq
    (.reg [⟨.l 32, .p .mv, [.v 10], none⟩,
      ⟨.v 6, .p .mv, [.l 32], none⟩])
    .ret)
    .skip)))))))
  (.reg [⟨.l 33, .p (.bin .add), [.v 13, .k (.m (.i .i64 1))], none⟩,
    ⟨.v 13, .p .mv, [.l 33], none⟩]))))
def c61_L0 : C := .loop [6, 7, 8, 9, 10, 14, 21, 31] c61_B0
def c61 : F := ⟨3, [.t 6],
  (.seq
  (.reg [⟨.v 6, .p .mv, [.k (.m (.i .i64 0))], none⟩])
  (.seq
  (.seq
  (.reg [⟨.v 11, .p .mv, [.v 0], none⟩,
    ⟨.v 12, .p (.len false), [.v 11], none⟩,
    ⟨.v 13, .p .mv, [.k (.m (.i .i64 0))], none⟩])
  (.blk 0
  c61_L0))
  (.seq
  (.seq
  (.reg [⟨.l 34, .p .mv, [.v 0], none⟩,
    ⟨.l 35, .p (.len false), [.l 34], none⟩,
    ⟨.l 36, .p .mv, [.v 1], none⟩,
    ⟨.l 37, .p (.len false), [.l 36], none⟩,
    ⟨.v 38, .p (.bin .lss), [.l 35, .l 37], none⟩])
  (.ite (.v 38)
    (.seq
    (.reg [⟨.v 6, .p .mv, [.k (.m (.i .i64 (-1)))], none⟩])
    .ret)
    .skip))
  (.seq
  (.reg [⟨.v 6, .p .mv, [.k (.m (.i .i64 0))], none⟩])
  .ret))))⟩

/- cellular/pattern.whole -/
def c62 : F := ⟨2, [.t 4],
  (.seq
  (.reg [⟨.v 2, .l (.bxp 2 3), [.v 0], none⟩,
    ⟨.v 3, .l (.bxp 3 3), [.v 1], none⟩,
    ⟨.v 4, .p .mv, [.k (.m (.i .i64 0))], none⟩])
  (.seq
  (.seq
  (.reg [⟨.l 5, .r (.ld true 3), [.v 2], none⟩,
    ⟨.l 6, .r (.ld true 3), [.v 3], none⟩,
    ⟨.v 7, .p (.eqs false [1, 1, 1]), [.l 5, .l 6], none⟩])
  (.ite (.v 7)
    (.seq
    (.reg [⟨.v 4, .p .mv, [.k (.m (.i .i64 0))], none⟩])
    .ret)
    .skip))
  (.seq
  (.reg [⟨.l 8, .r (.ld true 3), [.v 2], none⟩,
    ⟨.l 9, .r (.ld true 3), [.v 3], none⟩,
    ⟨.l 10, .l (.cal 47), [.l 8, .l 9], none⟩,
    ⟨.l 11, .p (.fad 2), [.v 2], none⟩,
    ⟨.l 12, .r (.ld false 1), [.l 11], none⟩,
    ⟨.l 13, .p (.fad 2), [.v 3], none⟩,
    ⟨.l 14, .r (.ld false 1), [.l 13], none⟩,
    ⟨.l 15, .l (.cal 77), [.l 12, .l 14], none⟩,
    ⟨.l 16, .p (.bsl 1 [.m (.i .i64 0)] 2 [0, 1]), [.l 10, .l 15], none⟩,
    ⟨.l 17, .l (.cal 76), [.l 16], none⟩,
    ⟨.v 4, .p .mv, [.l 17], none⟩])
  .ret)))⟩

/- cellular/cellularref04.find -/
def c63_B0 : C :=
  (.seq
  (.seq
  (.reg [⟨.l 4, .p .mv, [.v 3], none⟩,
    ⟨.v 5, .p (.bin .lss), [.l 4, .k (.m (.i .i64 8))], none⟩])
  (.ite (.v 5)
    .skip
    (.ex 0)))
  (.seq
  (.blk 1
  (.seq
  (.reg [⟨.l 8, .p .mv, [.v 3], none⟩,
    ⟨.l 9, .p (.build [.m (.i .i64 0), .m (.i .i64 0)] [(0, 1), (1, 1)]), [.k (.m (.i .i64 1)), .k (.m (.i .i64 2))], none⟩,
    ⟨.l 10, .l (.cal 40), [.l 8, .l 9], none⟩,
    ⟨.l 11, .r (.ld true 2), [.v 1], none⟩,
    ⟨.v 12, .p (.eqs false [1, 1]), [.l 10, .l 11], none⟩])
  (.ite (.v 12)
    (.seq
    (.reg [⟨.l 13, .p .mv, [.v 3], none⟩,
      ⟨.v 2, .p .mv, [.l 13], none⟩])
    .ret)
    .skip)))
  (.reg [⟨.l 6, .p .mv, [.v 3], none⟩,
    ⟨.l 7, .p (.bin .add), [.l 6, .k (.m (.i .i64 1))], none⟩,
    ⟨.v 3, .p .mv, [.l 7], none⟩])))
def c63_L0 : C := .loop [0, 2, 5, 12] c63_B0
def c63 : F := ⟨1, [.t 2],
  (.seq
  (.reg [⟨.v 1, .l (.bxp 1 2), [.v 0], none⟩,
    ⟨.v 2, .p .mv, [.k (.m (.i .i64 0))], none⟩])
  (.seq
  (.seq
  (.reg [⟨.v 3, .p .mv, [.k (.m (.i .i64 0))], none⟩])
  (.blk 0
  c63_L0))
  (.seq
  (.reg [⟨.v 2, .p .mv, [.k (.m (.i .i64 0))], none⟩])
  .ret)))⟩

/- cellular/cellularref05.insert -/
def c64_B0 : C :=
  (.seq
  (.seq
  (.reg [⟨.l 8, .p .mv, [.v 7], none⟩,
    ⟨.l 9, .p .mv, [.v 0], none⟩,
    ⟨.l 10, .p (.len false), [.l 9], none⟩,
    ⟨.v 11, .p (.bin .lss), [.l 8, .l 10], none⟩])
  (.ite (.v 11)
    .skip
    (.ex 0)))
  (.seq
  (.blk 1
  (.seq
  (.seq
  (.reg [⟨.l 14, .p .mv, [.v 6], none⟩,
    ⟨.l 15, .p (.un .not), [.l 14], none⟩,
    ⟨.l 16, .p .mv, [.l 15], none⟩,
    ⟨.l 17, .r (.ld true 3), [.v 3], some (.l 16, true)⟩,
    ⟨.l 18, .p .mv, [.v 0], some (.l 16, true)⟩,
    ⟨.l 19, .p .mv, [.v 7], some (.l 16, true)⟩,
    ⟨.l 20, .p (.ixa 3), [.l 18, .l 19], some (.l 16, true)⟩,
    ⟨.l 21, .r (.ld true 3), [.l 20], some (.l 16, true)⟩,
    ⟨.l 22, .l (.cal 42), [.l 17, .l 21], some (.l 16, true)⟩,
    ⟨.v 23, .p .pick, [.l 16, .l 22, .k (.m (.b false))], none⟩])
  (.ite (.v 23)
    (.seq
    (.reg [⟨.l 24, .p .mv, [.v 5], none⟩,
      ⟨.l 25, .r (.ld true 3), [.v 3], none⟩,
      ⟨.l 26, .p (.bsl 3 [.m (.i .i64 0), .m (.i .i64 0), .m (.i .i64 0)] 1 [0]), [.l 25], none⟩,
      ⟨.l 27, .l (.app 43 3 24), [.l 24, .l 26], none⟩,
      ⟨.v 5, .p .mv, [.l 27], none⟩])
    (.reg [⟨.v 6, .p .mv, [.k (.m (.b true))], none⟩]))
    .skip))
  (.reg [⟨.l 28, .p .mv, [.v 5], none⟩,
    ⟨.l 29, .p .mv, [.v 0], none⟩,
    ⟨.l 30, .p .mv, [.v 7], none⟩,
    ⟨.l 31, .p (.ixa 3), [.l 29, .l 30], none⟩,
    ⟨.l 32, .r (.ld true 3), [.l 31], none⟩,
    ⟨.l 33, .p (.bsl 3 [.m (.i .i64 0), .m (.i .i64 0), .m (.i .i64 0)] 1 [0]), [.l 32], none⟩,
    ⟨.l 34, .l (.app 43 3 24), [.l 28, .l 33], none⟩,
    ⟨.v 5, .p .mv, [.l 34], none⟩])))
  (.reg [⟨.l 12, .p .mv, [.v 7], none⟩,
    ⟨.l 13, .p (.bin .add), [.l 12, .k (.m (.i .i64 1))], none⟩,
    ⟨.v 7, .p .mv, [.l 13], none⟩])))
def c64_L0 : C := .loop [1, 4, 11, 23] c64_B0
def c64 : F := ⟨2, [.t 4],
  (.seq
  (.reg [⟨.v 3, .l (.bxp 3 3), [.v 1], none⟩,
    ⟨.v 4, .p .mv, [.k (.m (.nl 4))], none⟩])
  (.seq
  (.reg [⟨.v 5, .p .mv, [.k (.m (.nl 4))], none⟩])
  (.seq
  (.reg [⟨.v 6, .p .mv, [.k (.m (.b false))], none⟩])
  (.seq
  (.seq
  (.reg [⟨.v 7, .p .mv, [.k (.m (.i .i64 0))], none⟩])
  (.blk 0
  c64_L0))
  (.seq
  (.seq
  (.reg [⟨.l 35, .p .mv, [.v 6], none⟩,
    ⟨.v 36, .p (.un .not), [.l 35], none⟩])
  (.ite (.v 36)
    (.reg [⟨.l 37, .p .mv, [.v 5], none⟩,
      ⟨.l 38, .r (.ld true 3), [.v 3], none⟩,
      ⟨.l 39, .p (.bsl 3 [.m (.i .i64 0), .m (.i .i64 0), .m (.i .i64 0)] 1 [0]), [.l 38], none⟩,
      ⟨.l 40, .l (.app 43 3 24), [.l 37, .l 39], none⟩,
      ⟨.v 5, .p .mv, [.l 40], none⟩])
    .skip))
  (.seq
  (.reg [⟨.l 41, .p .mv, [.v 5], none⟩,
    ⟨.v 4, .p .mv, [.l 41], none⟩])
  .ret))))))⟩

/- slices.Equal[cellular/api.Pattern,cellular/api.Cell] -/
def c65_B0 : C :=
  (.seq
  (.reg [⟨.v 14, .p (.bin .lss), [.v 13, .v 12], none⟩])
  (.seq
  (.ite (.v 14)
    .skip
    (.ex 0))
  (.seq
  (.blk 1
  (.seq
  (.reg [⟨.l 15, .p .mv, [.v 13], none⟩,
    ⟨.v 5, .p .mv, [.l 15], none⟩])
  (.seq
  (.reg [⟨.l 16, .p .mv, [.v 0], none⟩,
    ⟨.l 17, .p .mv, [.v 5], none⟩,
    ⟨.l 18, .p (.ixa 3), [.l 16, .l 17], none⟩,
    ⟨.l 19, .r (.ld true 3), [.l 18], none⟩,
    ⟨.l 20, .p .mv, [.v 1], none⟩,
    ⟨.l 21, .p .mv, [.v 5], none⟩,
    ⟨.l 22, .p (.ixa 3), [.l 20, .l 21], none⟩,
    ⟨.l 23, .r (.ld true 3), [.l 22], none⟩,
    ⟨.v 24, .p (.eqs true [1, 1, 1]), [.l 19, .l 23], none⟩])
  (.ite (.v 24)
    (.seq
    (.reg [⟨.v 4, .p .mv, [.k (.m (.b false))], none⟩])
    .ret)
    .skip))))
  (.reg [⟨.l 25, .p (.bin .add), [.v 13, .k (.m (.i .i64 1))], none⟩,
    ⟨.v 13, .p .mv, [.l 25], none⟩]))))
def c65_L0 : C := .loop [4, 5, 10, 14, 24] c65_B0
def c65 : F := ⟨2, [.t 4],
  (.seq
  (.reg [⟨.v 4, .p .mv, [.k (.m (.b false))], none⟩])
  (.seq
  (.seq
  (.reg [⟨.l 6, .p .mv, [.v 0], none⟩,
    ⟨.l 7, .p (.len false), [.l 6], none⟩,
    ⟨.l 8, .p .mv, [.v 1], none⟩,
    ⟨.l 9, .p (.len false), [.l 8], none⟩,
    ⟨.v 10, .p (.bin .neq), [.l 7, .l 9], none⟩])
  (.ite (.v 10)
    (.seq
    (.reg [⟨.v 4, .p .mv, [.k (.m (.b false))], none⟩])
    .ret)
    .skip))
  (.seq
  (.seq
  (.reg [⟨.l 11, .p .mv, [.v 0], none⟩,
    ⟨.v 12, .p (.len false), [.l 11], none⟩,
    ⟨.v 13, .p .mv, [.k (.m (.i .i64 0))], none⟩])
  (.blk 0
  c65_L0))
  (.seq
  (.reg [⟨.v 4, .p .mv, [.k (.m (.b true))], none⟩])
  .ret))))⟩

/- cellular/point.Compare -/
def c66 : F := ⟨2, [.t 4],
  (.seq
  (.reg [⟨.v 2, .l (.bxp 2 2), [.v 0], none⟩,
    ⟨.v 3, .l (.bxp 3 2), [.v 1], none⟩,
    ⟨.v 4, .p .mv, [.k (.m (.i .i64 0))], none⟩])
  (.seq
  (.reg [⟨.l 5, .p (.fad 1), [.v 2], none⟩,
    ⟨.l 6, .r (.ld false 1), [.l 5], none⟩,
    ⟨.l 7, .p (.fad 1), [.v 3], none⟩,
    ⟨.l 8, .r (.ld false 1), [.l 7], none⟩,
    ⟨.l 9, .l (.cal 77), [.l 6, .l 8], none⟩,
    ⟨.l 10, .p (.fad 0), [.v 2], none⟩,
    ⟨.l 11, .r (.ld false 1), [.l 10], none⟩,
    ⟨.l 12, .p (.fad 0), [.v 3], none⟩,
    ⟨.l 13, .r (.ld false 1), [.l 12], none⟩,
    ⟨.l 14, .l (.cal 77), [.l 11, .l 13], none⟩,
    ⟨.l 15, .p (.bsl 1 [.m (.i .i64 0)] 2 [0, 1]), [.l 9, .l 14], none⟩,
    ⟨.l 16, .l (.cal 76), [.l 15], none⟩,
    ⟨.v 4, .p .mv, [.l 16], none⟩])
  .ret))⟩

/- internal/strconv.Itoa -/
def c68 : F := ⟨1, [.t 2],
  (.seq
  (.reg [⟨.v 2, .p .mv, [.k (.m (.s []))], none⟩])
  (.seq
  (.reg [⟨.l 3, .p .mv, [.v 0], none⟩,
    ⟨.l 4, .l (.cal 79), [.l 3, .k (.m (.i .i64 10))], none⟩,
    ⟨.v 2, .p .mv, [.l 4], none⟩])
  .ret))⟩

/- cellular/cellularref33.Decimal -/
def c69 : F := ⟨1, [.t 2],
  (.seq
  (.reg [⟨.v 2, .p .mv, [.k (.m (.s []))], none⟩])
  (.seq
  (.seq
  (.reg [⟨.l 3, .p .mv, [.v 0], none⟩,
    ⟨.v 4, .p (.bin .lss), [.l 3, .k (.m (.i .i64 10))], none⟩])
  (.ite (.v 4)
    (.seq
    (.reg [⟨.l 5, .p .mv, [.v 0], none⟩,
      ⟨.l 6, .p .mv, [.v 0], none⟩,
      ⟨.l 7, .p (.bin .add), [.l 6, .k (.m (.i .i64 1))], none⟩,
      ⟨.l 8, .p (.slc 0 true true false), [.k (.m (.s [48, 49, 50, 51, 52, 53, 54, 55, 56, 57])), .l 5, .l 7], none⟩,
      ⟨.v 2, .p .mv, [.l 8], none⟩])
    .ret)
    .skip))
  (.seq
  (.reg [⟨.l 9, .p .mv, [.v 0], none⟩,
    ⟨.l 10, .p (.bin .quo), [.l 9, .k (.m (.i .i64 10))], none⟩,
    ⟨.l 11, .l (.cal 69), [.l 10], none⟩,
    ⟨.l 12, .p .mv, [.v 0], none⟩,
    ⟨.l 13, .p (.bin .rem), [.l 12, .k (.m (.i .i64 10))], none⟩,
    ⟨.l 14, .l (.cal 69), [.l 13], none⟩,
    ⟨.l 15, .p (.bin .add), [.l 11, .l 14], none⟩,
    ⟨.v 2, .p .mv, [.l 15], none⟩])
  .ret)))⟩

/- slices.pdqsortCmpFunc[cellular/api.Cell] -/
def c71_B0 : C :=
  (.blk 1
  (.seq
  (.reg [⟨.l 21, .p .mv, [.v 2], none⟩,
    ⟨.l 22, .p .mv, [.v 1], none⟩,
    ⟨.l 23, .p (.bin .sub), [.l 21, .l 22], none⟩,
    ⟨.v 12, .p .mv, [.l 23], none⟩])
  (.seq
  (.seq
  (.reg [⟨.l 24, .p .mv, [.v 12], none⟩,
    ⟨.v 25, .p (.bin .leq), [.l 24, .k (.m (.i .i64 12))], none⟩])
  (.ite (.v 25)
    (.seq
    (.reg [⟨.l 26, .p .mv, [.v 0], none⟩,
      ⟨.l 27, .p .mv, [.v 1], none⟩,
      ⟨.l 28, .p .mv, [.v 2], none⟩,
      ⟨.l 29, .p .mv, [.v 4], none⟩,
      ⟨.l 30, .l (.cal 81), [.l 26, .l 27, .l 28, .l 29], none⟩])
    .ret)
    .skip))
  (.seq
  (.seq
  (.reg [⟨.l 31, .p .mv, [.v 3], none⟩,
    ⟨.v 32, .p (.bin .eql), [.l 31, .k (.m (.i .i64 0))], none⟩])
  (.ite (.v 32)
    (.seq
    (.reg [⟨.l 33, .p .mv, [.v 0], none⟩,
      ⟨.l 34, .p .mv, [.v 1], none⟩,
      ⟨.l 35, .p .mv, [.v 2], none⟩,
      ⟨.l 36, .p .mv, [.v 4], none⟩,
      ⟨.l 37, .l (.cal 82), [.l 33, .l 34, .l 35, .l 36], none⟩])
    .ret)
    .skip))
  (.seq
  (.seq
  (.reg [⟨.l 38, .p .mv, [.v 10], none⟩,
    ⟨.v 39, .p (.un .not), [.l 38], none⟩])
  (.ite (.v 39)
    (.seq
    (.reg [⟨.l 40, .p .mv, [.v 0], none⟩,
      ⟨.l 41, .p .mv, [.v 1], none⟩,
      ⟨.l 42, .p .mv, [.v 2], none⟩,
      ⟨.l 43, .p .mv, [.v 4], none⟩,
      ⟨.l 44, .l (.cal 83), [.l 40, .l 41, .l 42, .l 43], none⟩])
    (.reg [⟨.l 45, .p .mv, [.v 3], none⟩,
      ⟨.l 46, .p (.bin .sub), [.l 45, .k (.m (.i .i64 1))], none⟩,
      ⟨.v 3, .p .mv, [.l 46], none⟩]))
    .skip))
  (.seq
  (.reg [⟨.l 48, .p .mv, [.v 0], none⟩,
    ⟨.l 49, .p .mv, [.v 1], none⟩,
    ⟨.l 50, .p .mv, [.v 2], none⟩,
    ⟨.l 51, .p .mv, [.v 4], none⟩,
    ⟨.l 52, .l (.cal 84), [.l 48, .l 49, .l 50, .l 51], none⟩,
    ⟨.l 47, .p .mv, [.l 52], none⟩,
    ⟨.l 53, .p (.ext 0), [.l 47], none⟩,
    ⟨.l 54, .p (.ext 1), [.l 47], none⟩,
    ⟨.v 13, .p .mv, [.l 53], none⟩,
    ⟨.v 14, .p .mv, [.l 54], none⟩])
  (.seq
  (.seq
  (.reg [⟨.l 55, .p .mv, [.v 14], none⟩,
    ⟨.v 56, .p (.bin .eql), [.l 55, .k (.m (.i .i64 2))], none⟩])
  (.ite (.v 56)
    (.seq
    (.reg [⟨.l 57, .p .mv, [.v 0], none⟩,
      ⟨.l 58, .p .mv, [.v 1], none⟩,
      ⟨.l 59, .p .mv, [.v 2], none⟩,
      ⟨.l 60, .p .mv, [.v 4], none⟩,
      ⟨.l 61, .l (.cal 85), [.l 57, .l 58, .l 59, .l 60], none⟩])
    (.seq
    (.reg [⟨.l 62, .p .mv, [.v 2], none⟩,
      ⟨.l 63, .p (.bin .sub), [.l 62, .k (.m (.i .i64 1))], none⟩,
      ⟨.l 64, .p .mv, [.v 13], none⟩,
      ⟨.l 65, .p .mv, [.v 1], none⟩,
      ⟨.l 66, .p (.bin .sub), [.l 64, .l 65], none⟩,
      ⟨.l 67, .p (.bin .sub), [.l 63, .l 66], none⟩,
      ⟨.v 13, .p .mv, [.l 67], none⟩])
    (.reg [⟨.v 14, .p .mv, [.k (.m (.i .i64 1))], none⟩])))
    .skip))
  (.seq
  (.seq
  (.reg [⟨.l 68, .p .mv, [.v 10], none⟩,
    ⟨.l 69, .p .mv, [.l 68], none⟩,
    ⟨.l 70, .p .mv, [.v 11], some (.l 69, true)⟩,
    ⟨.l 71, .p .pick, [.l 69, .l 70, .k (.m (.b false))], none⟩,
    ⟨.l 72, .p .mv, [.l 71], none⟩,
    ⟨.l 73, .p .mv, [.v 14], some (.l 72, true)⟩,
    ⟨.l 74, .p (.bin .eql), [.l 73, .k (.m (.i .i64 1))], some (.l 72, true)⟩,
    ⟨.v 75, .p .pick, [.l 72, .l 74, .k (.m (.b false))], none⟩])
  (.ite (.v 75)
    (.seq
    (.reg [⟨.l 76, .p .mv, [.v 0], none⟩,
      ⟨.l 77, .p .mv, [.v 1], none⟩,
      ⟨.l 78, .p .mv, [.v 2], none⟩,
      ⟨.l 79, .p .mv, [.v 4], none⟩,
      ⟨.v 80, .l (.cal 86), [.l 76, .l 77, .l 78, .l 79], none⟩])
    (.ite (.v 80)
      .ret
      .skip))
    .skip))
  (.seq
  (.seq
  (.reg [⟨.l 81, .p .mv, [.v 1], none⟩,
    ⟨.l 82, .p (.bin .gtr), [.l 81, .k (.m (.i .i64 0))], none⟩,
    ⟨.l 83, .p .mv, [.l 82], none⟩,
    ⟨.l 84, .p .mv, [.v 4], some (.l 83, true)⟩,
    ⟨.l 85, .p .mv, [.v 0], some (.l 83, true)⟩,
    ⟨.l 86, .p .mv, [.v 1], some (.l 83, true)⟩,
    ⟨.l 87, .p (.bin .sub), [.l 86, .k (.m (.i .i64 1))], some (.l 83, true)⟩,
    ⟨.l 88, .p (.ixa 3), [.l 85, .l 87], some (.l 83, true)⟩,
    ⟨.l 89, .r (.ld true 3), [.l 88], some (.l 83, true)⟩,
    ⟨.l 90, .p .mv, [.v 0], some (.l 83, true)⟩,
    ⟨.l 91, .p .mv, [.v 13], some (.l 83, true)⟩,
    ⟨.l 92, .p (.ixa 3), [.l 90, .l 91], some (.l 83, true)⟩,
    ⟨.l 93, .r (.ld true 3), [.l 92], some (.l 83, true)⟩,
    ⟨.l 94, .l .cav, [.l 84, .l 89, .l 93], some (.l 83, true)⟩,
    ⟨.l 95, .p (.bin .lss), [.l 94, .k (.m (.i .i64 0))], some (.l 83, true)⟩,
    ⟨.l 96, .p (.un .not), [.l 95], some (.l 83, true)⟩,
    ⟨.v 97, .p .pick, [.l 83, .l 96, .k (.m (.b false))], none⟩])
  (.ite (.v 97)
    (.seq
    (.reg [⟨.l 98, .p .mv, [.v 0], none⟩,
      ⟨.l 99, .p .mv, [.v 1], none⟩,
      ⟨.l 100, .p .mv, [.v 2], none⟩,
      ⟨.l 101, .p .mv, [.v 13], none⟩,
      ⟨.l 102, .p .mv, [.v 4], none⟩,
      ⟨.l 103, .l (.cal 87), [.l 98, .l 99, .l 100, .l 101, .l 102], none⟩,
      ⟨.v 15, .p .mv, [.l 103], none⟩])
    (.seq
    (.reg [⟨.l 104, .p .mv, [.v 15], none⟩,
      ⟨.v 1, .p .mv, [.l 104], none⟩])
    (.ex 1)))
    .skip))
  (.seq
  (.reg [⟨.l 106, .p .mv, [.v 0], none⟩,
    ⟨.l 107, .p .mv, [.v 1], none⟩,
    ⟨.l 108, .p .mv, [.v 2], none⟩,
    ⟨.l 109, .p .mv, [.v 13], none⟩,
    ⟨.l 110, .p .mv, [.v 4], none⟩,
    ⟨.l 111, .l (.cal 88), [.l 106, .l 107, .l 108, .l 109, .l 110], none⟩,
    ⟨.l 105, .p .mv, [.l 111], none⟩,
    ⟨.l 112, .p (.ext 0), [.l 105], none⟩,
    ⟨.l 113, .p (.ext 1), [.l 105], none⟩,
    ⟨.v 16, .p .mv, [.l 112], none⟩,
    ⟨.v 17, .p .mv, [.l 113], none⟩])
  (.seq
  (.reg [⟨.l 114, .p .mv, [.v 17], none⟩,
    ⟨.v 11, .p .mv, [.l 114], none⟩])
  (.seq
  (.reg [⟨.l 115, .p .mv, [.v 16], none⟩,
    ⟨.l 116, .p .mv, [.v 1], none⟩,
    ⟨.l 117, .p (.bin .sub), [.l 115, .l 116], none⟩,
    ⟨.l 118, .p .mv, [.v 2], none⟩,
    ⟨.l 119, .p .mv, [.v 16], none⟩,
    ⟨.l 120, .p (.bin .sub), [.l 118, .l 119], none⟩,
    ⟨.v 18, .p .mv, [.l 117], none⟩,
    ⟨.v 19, .p .mv, [.l 120], none⟩])
  (.seq
  (.reg [⟨.l 121, .p .mv, [.v 12], none⟩,
    ⟨.l 122, .p (.bin .quo), [.l 121, .k (.m (.i .i64 8))], none⟩,
    ⟨.v 20, .p .mv, [.l 122], none⟩])
  (.seq
  (.reg [⟨.l 123, .p .mv, [.v 18], none⟩,
    ⟨.l 124, .p .mv, [.v 19], none⟩,
    ⟨.v 125, .p (.bin .lss), [.l 123, .l 124], none⟩])
  (.ite (.v 125)
    (.seq
    (.reg [⟨.l 126, .p .mv, [.v 18], none⟩,
      ⟨.l 127, .p .mv, [.v 20], none⟩,
      ⟨.l 128, .p (.bin .geq), [.l 126, .l 127], none⟩,
      ⟨.v 10, .p .mv, [.l 128], none⟩])
    (.seq
    (.reg [⟨.l 129, .p .mv, [.v 0], none⟩,
      ⟨.l 130, .p .mv, [.v 1], none⟩,
      ⟨.l 131, .p .mv, [.v 16], none⟩,
      ⟨.l 132, .p .mv, [.v 3], none⟩,
      ⟨.l 133, .p .mv, [.v 4], none⟩,
      ⟨.l 134, .l (.cal 71), [.l 129, .l 130, .l 131, .l 132, .l 133], none⟩])
    (.reg [⟨.l 135, .p .mv, [.v 16], none⟩,
      ⟨.l 136, .p (.bin .add), [.l 135, .k (.m (.i .i64 1))], none⟩,
      ⟨.v 1, .p .mv, [.l 136], none⟩])))
    (.seq
    (.reg [⟨.l 137, .p .mv, [.v 19], none⟩,
      ⟨.l 138, .p .mv, [.v 20], none⟩,
      ⟨.l 139, .p (.bin .geq), [.l 137, .l 138], none⟩,
      ⟨.v 10, .p .mv, [.l 139], none⟩])
    (.seq
    (.reg [⟨.l 140, .p .mv, [.v 0], none⟩,
      ⟨.l 141, .p .mv, [.v 16], none⟩,
      ⟨.l 142, .p (.bin .add), [.l 141, .k (.m (.i .i64 1))], none⟩,
      ⟨.l 143, .p .mv, [.v 2], none⟩,
      ⟨.l 144, .p .mv, [.v 3], none⟩,
      ⟨.l 145, .p .mv, [.v 4], none⟩,
      ⟨.l 146, .l (.cal 71), [.l 140, .l 142, .l 143, .l 144, .l 145], none⟩])
    (.reg [⟨.l 147, .p .mv, [.v 16], none⟩,
      ⟨.v 2, .p .mv, [.l 147], none⟩]))))))))))))))))))
def c71_L0 : C := .loop [12, 13, 14, 15, 16, 17, 18, 19, 20, 25, 32, 39, 56, 75, 80, 97, 125] c71_B0
def c71 : F := ⟨5, [],
  (.seq
  (.reg [⟨.v 10, .p .mv, [.k (.m (.b true))], none⟩])
  (.seq
  (.reg [⟨.v 11, .p .mv, [.k (.m (.b true))], none⟩])
  (.blk 0
  c71_L0)))⟩

/- math/bits.Len -/
def c72 : F := ⟨1, [.t 2],
  (.seq
  (.reg [⟨.v 2, .p .mv, [.k (.m (.i .i64 0))], none⟩])
  (.seq
  (.ite (.k (.m (.b false)))
    (.seq
    (.reg [⟨.l 3, .p .mv, [.v 0], none⟩,
      ⟨.l 4, .p (.cv .u32), [.l 3], none⟩,
      ⟨.l 5, .l (.cal 89), [.l 4], none⟩,
      ⟨.v 2, .p .mv, [.l 5], none⟩])
    .ret)
    .skip)
  (.seq
  (.reg [⟨.l 6, .p .mv, [.v 0], none⟩,
    ⟨.l 7, .l (.cal 90), [.l 6], none⟩,
    ⟨.v 2, .p .mv, [.l 7], none⟩])
  .ret)))⟩

/- cellular/algebra.Turn -/
def c73_B0 : C :=
  (.seq
  (.reg [⟨.v 19, .p (.bin .lss), [.v 18, .v 17], none⟩])
  (.seq
  (.ite (.v 19)
    .skip
    (.ex 0))
  (.seq
  (.blk 1
  (.seq
  (.reg [⟨.l 20, .p (.ixa 3), [.v 16, .v 18], none⟩,
    ⟨.l 21, .r (.ld true 3), [.l 20], none⟩,
    ⟨.v 8, .l (.alp 8 [.m (.i .i64 0), .m (.i .i64 0), .m (.i .i64 0)]), [], none⟩,
    ⟨.no, .l (.st 3), [.v 8, .l 21], none⟩])
  (.seq
  (.reg [⟨.l 22, .p .mv, [.v 0], none⟩,
    ⟨.l 23, .p (.fad 0), [.v 8], none⟩,
    ⟨.l 24, .r (.ld false 1), [.l 23], none⟩,
    ⟨.l 25, .p (.fad 1), [.v 8], none⟩,
    ⟨.l 26, .r (.ld false 1), [.l 25], none⟩,
    ⟨.l 27, .p (.build [.m (.i .i64 0), .m (.i .i64 0)] [(0, 1), (1, 1)]), [.l 24, .l 26], none⟩,
    ⟨.l 28, .l (.cal 74), [.l 22, .l 27], none⟩,
    ⟨.v 9, .l (.alp 9 [.m (.i .i64 0), .m (.i .i64 0)]), [], none⟩,
    ⟨.no, .l (.st 2), [.v 9, .l 28], none⟩])
  (.reg [⟨.l 29, .p .mv, [.v 6], none⟩,
    ⟨.l 30, .p (.fad 0), [.v 9], none⟩,
    ⟨.l 31, .r (.ld false 1), [.l 30], none⟩,
    ⟨.l 32, .p (.fad 1), [.v 9], none⟩,
    ⟨.l 33, .r (.ld false 1), [.l 32], none⟩,
    ⟨.l 34, .p (.fad 2), [.v 8], none⟩,
    ⟨.l 35, .r (.ld false 1), [.l 34], none⟩,
    ⟨.l 36, .p (.build [.m (.i .i64 0), .m (.i .i64 0), .m (.i .i64 0)] [(0, 1), (1, 1), (2, 1)]), [.l 31, .l 33, .l 35], none⟩,
    ⟨.l 37, .p (.bsl 3 [.m (.i .i64 0), .m (.i .i64 0), .m (.i .i64 0)] 1 [0]), [.l 36], none⟩,
    ⟨.l 38, .l (.app 43 3 24), [.l 29, .l 37], none⟩,
    ⟨.v 6, .p .mv, [.l 38], none⟩]))))
  (.reg [⟨.l 39, .p (.bin .add), [.v 18, .k (.m (.i .i64 1))], none⟩,
    ⟨.v 18, .p .mv, [.l 39], none⟩]))))
def c73_L0 : C := .loop [1, 4, 5, 8, 9, 12, 19] c73_B0
def c73 : F := ⟨2, [.t 4, .t 5],
  (.seq
  (.reg [⟨.v 4, .p .mv, [.k (.m (.nl 4))], none⟩,
    ⟨.v 5, .p .mv, [.k (.m (.i .i64 0))], none⟩])
  (.seq
  (.seq
  (.reg [⟨.l 10, .p .mv, [.v 1], none⟩,
    ⟨.l 11, .l (.cal 24), [.l 10], none⟩,
    ⟨.v 12, .p (.un .not), [.l 11], none⟩])
  (.ite (.v 12)
    (.seq
    (.reg [⟨.v 4, .p .mv, [.k (.m (.nl 4))], none⟩,
      ⟨.v 5, .p .mv, [.k (.m (.i .i64 2))], none⟩])
    .ret)
    .skip))
  (.seq
  (.reg [⟨.l 13, .p .mv, [.v 1], none⟩,
    ⟨.l 14, .p (.len false), [.l 13], none⟩,
    ⟨.l 15, .l (.mks 43 3 [.m (.i .i64 0), .m (.i .i64 0), .m (.i .i64 0)] 24), [.k (.m (.i .i64 0)), .l 14], none⟩,
    ⟨.v 6, .p .mv, [.l 15], none⟩])
  (.seq
  (.seq
  (.reg [⟨.v 16, .p .mv, [.v 1], none⟩,
    ⟨.v 17, .p (.len false), [.v 16], none⟩,
    ⟨.v 18, .p .mv, [.k (.m (.i .i64 0))], none⟩])
  (.blk 0
  c73_L0))
  (.seq
  (.reg [⟨.l 40, .p .mv, [.v 6], none⟩,
    ⟨.l 41, .l (.cal 56), [.l 40, .k (.m (.fn 91 []))], none⟩])
  (.seq
  (.reg [⟨.l 42, .p .mv, [.v 6], none⟩,
    ⟨.v 4, .p .mv, [.l 42], none⟩,
    ⟨.v 5, .p .mv, [.k (.m (.i .i64 0))], none⟩])
  .ret))))))⟩

/- cellular/symmetry.Apply -/
def c74 : F := ⟨2, [.c 4 2 true],
  (.seq
  (.reg [⟨.v 3, .l (.bxp 3 2), [.v 1], none⟩,
    ⟨.v 4, .l (.alp 4 [.m (.i .i64 0), .m (.i .i64 0)]), [], none⟩])
  (.seq
  (.reg [⟨.l 6, .p .mv, [.v 0], none⟩,
    ⟨.l 7, .p (.bin .and), [.l 6, .k (.m (.i .i64 7))], none⟩,
    ⟨.l 8, .p (.ixaA 8 4), [.k (.m (.pt g0)), .l 7], none⟩,
    ⟨.l 9, .r (.ld true 4), [.l 8], none⟩,
    ⟨.v 5, .l (.alp 5 [.m (.i .i64 0), .m (.i .i64 0), .m (.i .i64 0), .m (.i .i64 0)]), [], none⟩,
    ⟨.no, .l (.st 4), [.v 5, .l 9], none⟩])
  (.seq
  (.reg [⟨.l 10, .p (.ixaA 4 1), [.v 5, .k (.m (.i .i64 0))], none⟩,
    ⟨.l 11, .r (.ld false 1), [.l 10], none⟩,
    ⟨.l 12, .p (.fad 0), [.v 3], none⟩,
    ⟨.l 13, .r (.ld false 1), [.l 12], none⟩,
    ⟨.l 14, .p (.bin .mul), [.l 11, .l 13], none⟩,
    ⟨.l 15, .p (.ixaA 4 1), [.v 5, .k (.m (.i .i64 1))], none⟩,
    ⟨.l 16, .r (.ld false 1), [.l 15], none⟩,
    ⟨.l 17, .p (.fad 1), [.v 3], none⟩,
    ⟨.l 18, .r (.ld false 1), [.l 17], none⟩,
    ⟨.l 19, .p (.bin .mul), [.l 16, .l 18], none⟩,
    ⟨.l 20, .p (.bin .add), [.l 14, .l 19], none⟩,
    ⟨.l 21, .p (.ixaA 4 1), [.v 5, .k (.m (.i .i64 2))], none⟩,
    ⟨.l 22, .r (.ld false 1), [.l 21], none⟩,
    ⟨.l 23, .p (.fad 0), [.v 3], none⟩,
    ⟨.l 24, .r (.ld false 1), [.l 23], none⟩,
    ⟨.l 25, .p (.bin .mul), [.l 22, .l 24], none⟩,
    ⟨.l 26, .p (.ixaA 4 1), [.v 5, .k (.m (.i .i64 3))], none⟩,
    ⟨.l 27, .r (.ld false 1), [.l 26], none⟩,
    ⟨.l 28, .p (.fad 1), [.v 3], none⟩,
    ⟨.l 29, .r (.ld false 1), [.l 28], none⟩,
    ⟨.l 30, .p (.bin .mul), [.l 27, .l 29], none⟩,
    ⟨.l 31, .p (.bin .add), [.l 25, .l 30], none⟩,
    ⟨.l 32, .p (.build [.m (.i .i64 0), .m (.i .i64 0)] [(0, 1), (1, 1)]), [.l 20, .l 31], none⟩,
    ⟨.no, .l (.st 2), [.v 4, .l 32], none⟩])
  .ret)))⟩

/- slices.Index[[][4]int,[4]int] -/
def c75_B0 : C :=
  (.seq
  (.reg [⟨.v 9, .p (.bin .lss), [.v 8, .v 7], none⟩])
  (.seq
  (.ite (.v 9)
    .skip
    (.ex 0))
  (.seq
  (.blk 1
  (.seq
  (.reg [⟨.l 10, .p .mv, [.v 8], none⟩,
    ⟨.v 5, .p .mv, [.l 10], none⟩])
  (.seq
  (.reg [⟨.l 11, .r (.ld true 4), [.v 3], none⟩,
    ⟨.l 12, .p .mv, [.v 0], none⟩,
    ⟨.l 13, .p .mv, [.v 5], none⟩,
    ⟨.l 14, .p (.ixa 4), [.l 12, .l 13], none⟩,
    ⟨.l 15, .r (.ld true 4), [.l 14], none⟩,
    ⟨.v 16, .p (.eqs false [1, 1, 1, 1]), [.l 11, .l 15], none⟩])
  (.ite (.v 16)
    (.seq
    (.reg [⟨.l 17, .p .mv, [.v 5], none⟩,
      ⟨.v 4, .p .mv, [.l 17], none⟩])
    .ret)
    .skip))))
  (.reg [⟨.l 18, .p (.bin .add), [.v 8, .k (.m (.i .i64 1))], none⟩,
    ⟨.v 8, .p .mv, [.l 18], none⟩]))))
def c75_L0 : C := .loop [1, 4, 5, 9, 16] c75_B0
def c75 : F := ⟨2, [.t 4],
  (.seq
  (.reg [⟨.v 3, .l (.bxp 3 4), [.v 1], none⟩,
    ⟨.v 4, .p .mv, [.k (.m (.i .i64 0))], none⟩])
  (.seq
  (.seq
  (.reg [⟨.l 6, .p .mv, [.v 0], none⟩,
    ⟨.v 7, .p (.len false), [.l 6], none⟩,
    ⟨.v 8, .p .mv, [.k (.m (.i .i64 0))], none⟩])
  (.blk 0
  c75_L0))
  (.seq
  (.reg [⟨.v 4, .p .mv, [.k (.m (.i .i64 (-1)))], none⟩])
  .ret)))⟩

/- cmp.Or[int] -/
def c76_B0 : C :=
  (.seq
  (.reg [⟨.v 9, .p (.bin .lss), [.v 8, .v 7], none⟩])
  (.seq
  (.ite (.v 9)
    .skip
    (.ex 0))
  (.seq
  (.blk 1
  (.seq
  (.reg [⟨.l 10, .p (.ixa 1), [.v 6, .v 8], none⟩,
    ⟨.l 11, .r (.ld false 1), [.l 10], none⟩,
    ⟨.v 5, .p .mv, [.l 11], none⟩])
  (.seq
  (.reg [⟨.l 12, .p .mv, [.v 5], none⟩,
    ⟨.l 13, .p .mv, [.v 3], none⟩,
    ⟨.v 14, .p (.bin .neq), [.l 12, .l 13], none⟩])
  (.ite (.v 14)
    (.seq
    (.reg [⟨.l 15, .p .mv, [.v 5], none⟩,
      ⟨.v 2, .p .mv, [.l 15], none⟩])
    .ret)
    .skip))))
  (.reg [⟨.l 16, .p (.bin .add), [.v 8, .k (.m (.i .i64 1))], none⟩,
    ⟨.v 8, .p .mv, [.l 16], none⟩]))))
def c76_L0 : C := .loop [0, 2, 5, 9, 14] c76_B0
def c76 : F := ⟨1, [.t 2],
  (.seq
  (.reg [⟨.v 2, .p .mv, [.k (.m (.i .i64 0))], none⟩])
  (.seq
  (.reg [⟨.v 3, .p .mv, [.k (.m (.i .i64 0))], none⟩])
  (.seq
  (.seq
  (.reg [⟨.v 6, .p .mv, [.v 0], none⟩,
    ⟨.v 7, .p (.len false), [.v 6], none⟩,
    ⟨.v 8, .p .mv, [.k (.m (.i .i64 0))], none⟩])
  (.blk 0
  c76_L0))
  (.seq
  (.reg [⟨.l 17, .p .mv, [.v 3], none⟩,
    ⟨.v 2, .p .mv, [.l 17], none⟩])
  .ret))))⟩

/- cmp.Compare[int] -/
def c77 : F := ⟨2, [.t 4],
  (.seq
  (.reg [⟨.v 4, .p .mv, [.k (.m (.i .i64 0))], none⟩])
  (.seq
  (.reg [⟨.l 7, .p .mv, [.v 0], none⟩,
    ⟨.l 8, .l (.cal 92), [.l 7], none⟩,
    ⟨.v 5, .p .mv, [.l 8], none⟩])
  (.seq
  (.reg [⟨.l 9, .p .mv, [.v 1], none⟩,
    ⟨.l 10, .l (.cal 92), [.l 9], none⟩,
    ⟨.v 6, .p .mv, [.l 10], none⟩])
  (.seq
  (.seq
  (.reg [⟨.v 11, .p .mv, [.v 5], none⟩])
  (.ite (.v 11)
    (.seq
    (.seq
    (.reg [⟨.v 12, .p .mv, [.v 6], none⟩])
    (.ite (.v 12)
      (.seq
      (.reg [⟨.v 4, .p .mv, [.k (.m (.i .i64 0))], none⟩])
      .ret)
      .skip))
    (.seq
    (.reg [⟨.v 4, .p .mv, [.k (.m (.i .i64 (-1)))], none⟩])
    .ret))
    .skip))
  (.seq
  (.seq
  (.reg [⟨.v 13, .p .mv, [.v 6], none⟩])
  (.ite (.v 13)
    (.seq
    (.reg [⟨.v 4, .p .mv, [.k (.m (.i .i64 1))], none⟩])
    .ret)
    .skip))
  (.seq
  (.seq
  (.reg [⟨.l 14, .p .mv, [.v 0], none⟩,
    ⟨.l 15, .p .mv, [.v 1], none⟩,
    ⟨.v 16, .p (.bin .lss), [.l 14, .l 15], none⟩])
  (.ite (.v 16)
    (.seq
    (.reg [⟨.v 4, .p .mv, [.k (.m (.i .i64 (-1)))], none⟩])
    .ret)
    .skip))
  (.seq
  (.seq
  (.reg [⟨.l 17, .p .mv, [.v 0], none⟩,
    ⟨.l 18, .p .mv, [.v 1], none⟩,
    ⟨.v 19, .p (.bin .gtr), [.l 17, .l 18], none⟩])
  (.ite (.v 19)
    (.seq
    (.reg [⟨.v 4, .p .mv, [.k (.m (.i .i64 1))], none⟩])
    .ret)
    .skip))
  (.seq
  (.reg [⟨.v 4, .p .mv, [.k (.m (.i .i64 0))], none⟩])
  .ret))))))))⟩

/- internal/strconv.FormatInt -/
def c79 : F := ⟨2, [.t 4],
  (.seq
  (.reg [⟨.v 4, .p .mv, [.k (.m (.s []))], none⟩])
  (.seq
  (.seq
  (.reg [⟨.l 10, .p .mv, [.v 1], none⟩,
    ⟨.v 11, .p (.bin .eql), [.l 10, .k (.m (.i .i64 10))], none⟩])
  (.ite (.v 11)
    (.seq
    (.seq
    (.reg [⟨.l 12, .p .mv, [.v 0], none⟩,
      ⟨.l 13, .p (.bin .leq), [.k (.m (.i .i64 0)), .l 12], none⟩,
      ⟨.l 14, .p .mv, [.l 13], none⟩,
      ⟨.l 15, .p .mv, [.v 0], some (.l 14, true)⟩,
      ⟨.l 16, .p (.bin .lss), [.l 15, .k (.m (.i .i64 100))], some (.l 14, true)⟩,
      ⟨.v 17, .p .pick, [.l 14, .l 16, .k (.m (.b false))], none⟩])
    (.ite (.v 17)
      (.seq
      (.reg [⟨.l 18, .p .mv, [.v 0], none⟩,
        ⟨.l 19, .l (.cal 93), [.l 18], none⟩,
        ⟨.v 4, .p .mv, [.l 19], none⟩])
      .ret)
      .skip))
    (.seq
    (.reg [⟨.v 5, .l (.als 118 1 24 [.m (.i .u8 0), .m (.i .u8 0), .m (.i .u8 0), .m (.i .u8 0), .m (.i .u8 0), .m (.i .u8 0), .m (.i .u8 0), .m (.i .u8 0), .m (.i .u8 0), .m (.i .u8 0), .m (.i .u8 0), .m (.i .u8 0), .m (.i .u8 0), .m (.i .u8 0), .m (.i .u8 0), .m (.i .u8 0), .m (.i .u8 0), .m (.i .u8 0), .m (.i .u8 0), .m (.i .u8 0), .m (.i .u8 0), .m (.i .u8 0), .m (.i .u8 0), .m (.i .u8 0)]), [], none⟩])
    (.seq
    (.reg [⟨.l 20, .p .mv, [.v 0], none⟩,
      ⟨.l 21, .p (.cv .u64), [.l 20], none⟩,
      ⟨.v 6, .p .mv, [.l 21], none⟩])
    (.seq
    (.seq
    (.reg [⟨.l 22, .p .mv, [.v 0], none⟩,
      ⟨.v 23, .p (.bin .lss), [.l 22, .k (.m (.i .i64 0))], none⟩])
    (.ite (.v 23)
      (.reg [⟨.l 24, .p .mv, [.v 6], none⟩,
        ⟨.l 25, .p (.un .neg), [.l 24], none⟩,
        ⟨.v 6, .p .mv, [.l 25], none⟩])
      .skip))
    (.seq
    (.reg [⟨.l 26, .p .mv, [.v 6], none⟩,
      ⟨.l 27, .l (.cal 94), [.l 26], none⟩,
      ⟨.v 7, .p .mv, [.l 27], none⟩])
    (.seq
    (.reg [⟨.l 28, .p .mv, [.v 7], none⟩,
      ⟨.l 29, .p (.bin .add), [.k (.m (.i .i64 1)), .l 28], none⟩,
      ⟨.l 30, .r (.slcA 24 1 true true false), [.v 5, .k (.m (.i .i64 1)), .l 29], none⟩,
      ⟨.l 31, .p .mv, [.v 6], none⟩,
      ⟨.l 32, .l (.cal 95), [.l 30, .l 31], none⟩])
    (.seq
    (.seq
    (.reg [⟨.l 33, .p .mv, [.v 0], none⟩,
      ⟨.v 34, .p (.bin .lss), [.l 33, .k (.m (.i .i64 0))], none⟩])
    (.ite (.v 34)
      (.seq
      (.reg [⟨.l 35, .p (.ixaA 24 1), [.v 5, .k (.m (.i .i64 0))], none⟩,
        ⟨.no, .l (.st 1), [.l 35, .k (.m (.i .u8 45))], none⟩])
      (.seq
      (.reg [⟨.l 36, .p .mv, [.v 7], none⟩,
        ⟨.l 37, .p (.bin .add), [.k (.m (.i .i64 1)), .l 36], none⟩,
        ⟨.l 38, .r (.slcA 24 1 false true false), [.v 5, .l 37], none⟩,
        ⟨.l 39, .r .b2s, [.l 38], none⟩,
        ⟨.v 4, .p .mv, [.l 39], none⟩])
      .ret))
      .skip))
    (.seq
    (.reg [⟨.l 40, .p .mv, [.v 7], none⟩,
      ⟨.l 41, .p (.bin .add), [.k (.m (.i .i64 1)), .l 40], none⟩,
      ⟨.l 42, .r (.slcA 24 1 true true false), [.v 5, .k (.m (.i .i64 1)), .l 41], none⟩,
      ⟨.l 43, .r .b2s, [.l 42], none⟩,
      ⟨.v 4, .p .mv, [.l 43], none⟩])
    .ret))))))))
    .skip))
  (.seq
  (.reg [⟨.l 45, .p .mv, [.v 0], none⟩,
    ⟨.l 46, .p (.cv .u64), [.l 45], none⟩,
    ⟨.l 47, .p .mv, [.v 1], none⟩,
    ⟨.l 48, .p .mv, [.v 0], none⟩,
    ⟨.l 49, .p (.bin .lss), [.l 48, .k (.m (.i .i64 0))], none⟩,
    ⟨.l 50, .l (.cal 96), [.k (.m (.nl 4)), .l 46, .l 47, .l 49, .k (.m (.b false))], none⟩,
    ⟨.l 44, .p .mv, [.l 50], none⟩,
    ⟨.l 51, .p (.ext 0), [.l 44], none⟩,
    ⟨.l 52, .p (.ext 1), [.l 44], none⟩,
    ⟨.l 8, .p .mv, [.l 51], none⟩,
    ⟨.v 9, .p .mv, [.l 52], none⟩])
  (.seq
  (.reg [⟨.l 53, .p .mv, [.v 9], none⟩,
    ⟨.v 4, .p .mv, [.l 53], none⟩])
  .ret))))⟩

/- slices.insertionSortCmpFunc[cellular/api.Cell] -/
def c81_B0 : C :=
  (.seq
  (.seq
  (.reg [⟨.l 18, .p .mv, [.v 9], none⟩,
    ⟨.l 19, .p .mv, [.v 1], none⟩,
    ⟨.l 20, .p (.bin .gtr), [.l 18, .l 19], none⟩,
    ⟨.l 21, .p .mv, [.l 20], none⟩,
    ⟨.l 22, .p .mv, [.v 3], some (.l 21, true)⟩,
    ⟨.l 23, .p .mv, [.v 0], some (.l 21, true)⟩,
    ⟨.l 24, .p .mv, [.v 9], some (.l 21, true)⟩,
    ⟨.l 25, .p (.ixa 3), [.l 23, .l 24], some (.l 21, true)⟩,
    ⟨.l 26, .r (.ld true 3), [.l 25], some (.l 21, true)⟩,
    ⟨.l 27, .p .mv, [.v 0], some (.l 21, true)⟩,
    ⟨.l 28, .p .mv, [.v 9], some (.l 21, true)⟩,
    ⟨.l 29, .p (.bin .sub), [.l 28, .k (.m (.i .i64 1))], some (.l 21, true)⟩,
    ⟨.l 30, .p (.ixa 3), [.l 27, .l 29], some (.l 21, true)⟩,
    ⟨.l 31, .r (.ld true 3), [.l 30], some (.l 21, true)⟩,
    ⟨.l 32, .l .cav, [.l 22, .l 26, .l 31], some (.l 21, true)⟩,
    ⟨.l 33, .p (.bin .lss), [.l 32, .k (.m (.i .i64 0))], some (.l 21, true)⟩,
    ⟨.v 34, .p .pick, [.l 21, .l 33, .k (.m (.b false))], none⟩])
  (.ite (.v 34)
    .skip
    (.ex 2)))
  (.seq
  (.blk 3
  (.reg [⟨.l 37, .p .mv, [.v 0], none⟩,
    ⟨.l 38, .p .mv, [.v 9], none⟩,
    ⟨.l 39, .p .mv, [.v 0], none⟩,
    ⟨.l 40, .p .mv, [.v 9], none⟩,
    ⟨.l 41, .p (.bin .sub), [.l 40, .k (.m (.i .i64 1))], none⟩,
    ⟨.l 42, .p .mv, [.v 0], none⟩,
    ⟨.l 43, .p .mv, [.v 9], none⟩,
    ⟨.l 44, .p (.bin .sub), [.l 43, .k (.m (.i .i64 1))], none⟩,
    ⟨.l 45, .p (.ixa 3), [.l 42, .l 44], none⟩,
    ⟨.l 46, .r (.ld true 3), [.l 45], none⟩,
    ⟨.l 47, .p .mv, [.v 0], none⟩,
    ⟨.l 48, .p .mv, [.v 9], none⟩,
    ⟨.l 49, .p (.ixa 3), [.l 47, .l 48], none⟩,
    ⟨.l 50, .r (.ld true 3), [.l 49], none⟩,
    ⟨.l 51, .p (.ixa 3), [.l 37, .l 38], none⟩,
    ⟨.no, .l (.st 3), [.l 51, .l 46], none⟩,
    ⟨.l 52, .p (.ixa 3), [.l 39, .l 41], none⟩,
    ⟨.no, .l (.st 3), [.l 52, .l 50], none⟩]))
  (.reg [⟨.l 35, .p .mv, [.v 9], none⟩,
    ⟨.l 36, .p (.bin .sub), [.l 35, .k (.m (.i .i64 1))], none⟩,
    ⟨.v 9, .p .mv, [.l 36], none⟩])))
def c81_L0 : C := .loop [14, 34] c81_B0
def c81_B1 : C :=
  (.seq
  (.seq
  (.reg [⟨.l 12, .p .mv, [.v 8], none⟩,
    ⟨.l 13, .p .mv, [.v 2], none⟩,
    ⟨.v 14, .p (.bin .lss), [.l 12, .l 13], none⟩])
  (.ite (.v 14)
    .skip
    (.ex 0)))
  (.seq
  (.blk 1
  (.seq
  (.reg [⟨.l 17, .p .mv, [.v 8], none⟩,
    ⟨.v 9, .p .mv, [.l 17], none⟩])
  (.blk 2
  c81_L0)))
  (.reg [⟨.l 15, .p .mv, [.v 8], none⟩,
    ⟨.l 16, .p (.bin .add), [.l 15, .k (.m (.i .i64 1))], none⟩,
    ⟨.v 8, .p .mv, [.l 16], none⟩])))
def c81_L1 : C := .loop [9, 34] c81_B1
def c81 : F := ⟨4, [],
  (.seq
  (.reg [⟨.l 10, .p .mv, [.v 1], none⟩,
    ⟨.l 11, .p (.bin .add), [.l 10, .k (.m (.i .i64 1))], none⟩,
    ⟨.v 8, .p .mv, [.l 11], none⟩])
  (.blk 0
  c81_L1))⟩

/- slices.heapSortCmpFunc[cellular/api.Cell] -/
def c82_B0 : C :=
  (.seq
  (.seq
  (.reg [⟨.l 20, .p .mv, [.v 11], none⟩,
    ⟨.v 21, .p (.bin .geq), [.l 20, .k (.m (.i .i64 0))], none⟩])
  (.ite (.v 21)
    .skip
    (.ex 0)))
  (.seq
  (.blk 1
  (.reg [⟨.l 24, .p .mv, [.v 0], none⟩,
    ⟨.l 25, .p .mv, [.v 11], none⟩,
    ⟨.l 26, .p .mv, [.v 10], none⟩,
    ⟨.l 27, .p .mv, [.v 8], none⟩,
    ⟨.l 28, .p .mv, [.v 3], none⟩,
    ⟨.l 29, .l (.cal 97), [.l 24, .l 25, .l 26, .l 27, .l 28], none⟩]))
  (.reg [⟨.l 22, .p .mv, [.v 11], none⟩,
    ⟨.l 23, .p (.bin .sub), [.l 22, .k (.m (.i .i64 1))], none⟩,
    ⟨.v 11, .p .mv, [.l 23], none⟩])))
def c82_L0 : C := .loop [1, 2, 21] c82_B0
def c82_B1 : C :=
  (.seq
  (.seq
  (.reg [⟨.l 32, .p .mv, [.v 12], none⟩,
    ⟨.v 33, .p (.bin .geq), [.l 32, .k (.m (.i .i64 0))], none⟩])
  (.ite (.v 33)
    .skip
    (.ex 2)))
  (.seq
  (.blk 3
  (.seq
  (.reg [⟨.l 36, .p .mv, [.v 0], none⟩,
    ⟨.l 37, .p .mv, [.v 8], none⟩,
    ⟨.l 38, .p .mv, [.v 0], none⟩,
    ⟨.l 39, .p .mv, [.v 8], none⟩,
    ⟨.l 40, .p .mv, [.v 12], none⟩,
    ⟨.l 41, .p (.bin .add), [.l 39, .l 40], none⟩,
    ⟨.l 42, .p .mv, [.v 0], none⟩,
    ⟨.l 43, .p .mv, [.v 8], none⟩,
    ⟨.l 44, .p .mv, [.v 12], none⟩,
    ⟨.l 45, .p (.bin .add), [.l 43, .l 44], none⟩,
    ⟨.l 46, .p (.ixa 3), [.l 42, .l 45], none⟩,
    ⟨.l 47, .r (.ld true 3), [.l 46], none⟩,
    ⟨.l 48, .p .mv, [.v 0], none⟩,
    ⟨.l 49, .p .mv, [.v 8], none⟩,
    ⟨.l 50, .p (.ixa 3), [.l 48, .l 49], none⟩,
    ⟨.l 51, .r (.ld true 3), [.l 50], none⟩,
    ⟨.l 52, .p (.ixa 3), [.l 36, .l 37], none⟩,
    ⟨.no, .l (.st 3), [.l 52, .l 47], none⟩,
    ⟨.l 53, .p (.ixa 3), [.l 38, .l 41], none⟩,
    ⟨.no, .l (.st 3), [.l 53, .l 51], none⟩])
  (.reg [⟨.l 54, .p .mv, [.v 0], none⟩,
    ⟨.l 55, .p .mv, [.v 9], none⟩,
    ⟨.l 56, .p .mv, [.v 12], none⟩,
    ⟨.l 57, .p .mv, [.v 8], none⟩,
    ⟨.l 58, .p .mv, [.v 3], none⟩,
    ⟨.l 59, .l (.cal 97), [.l 54, .l 55, .l 56, .l 57, .l 58], none⟩])))
  (.reg [⟨.l 34, .p .mv, [.v 12], none⟩,
    ⟨.l 35, .p (.bin .sub), [.l 34, .k (.m (.i .i64 1))], none⟩,
    ⟨.v 12, .p .mv, [.l 35], none⟩])))
def c82_L1 : C := .loop [10, 11, 21, 33] c82_B1
def c82 : F := ⟨4, [],
  (.seq
  (.reg [⟨.l 13, .p .mv, [.v 1], none⟩,
    ⟨.v 8, .p .mv, [.l 13], none⟩])
  (.seq
  (.reg [⟨.v 9, .p .mv, [.k (.m (.i .i64 0))], none⟩])
  (.seq
  (.reg [⟨.l 14, .p .mv, [.v 2], none⟩,
    ⟨.l 15, .p .mv, [.v 1], none⟩,
    ⟨.l 16, .p (.bin .sub), [.l 14, .l 15], none⟩,
    ⟨.v 10, .p .mv, [.l 16], none⟩])
  (.seq
  (.seq
  (.reg [⟨.l 17, .p .mv, [.v 10], none⟩,
    ⟨.l 18, .p (.bin .sub), [.l 17, .k (.m (.i .i64 1))], none⟩,
    ⟨.l 19, .p (.bin .quo), [.l 18, .k (.m (.i .i64 2))], none⟩,
    ⟨.v 11, .p .mv, [.l 19], none⟩])
  (.blk 0
  c82_L0))
  (.seq
  (.reg [⟨.l 30, .p .mv, [.v 10], none⟩,
    ⟨.l 31, .p (.bin .sub), [.l 30, .k (.m (.i .i64 1))], none⟩,
    ⟨.v 12, .p .mv, [.l 31], none⟩])
  (.blk 2
  c82_L1))))))⟩

/- slices.breakPatternsCmpFunc[cellular/api.Cell] -/
def c83_B0 : C :=
  (.seq
  (.seq
  (.reg [⟨.l 28, .p .mv, [.v 11], none⟩,
    ⟨.l 29, .p .mv, [.v 1], none⟩,
    ⟨.l 30, .p .mv, [.v 8], none⟩,
    ⟨.l 31, .p (.bin .quo), [.l 30, .k (.m (.i .i64 4))], none⟩,
    ⟨.l 32, .p (.bin .mul), [.l 31, .k (.m (.i .i64 2))], none⟩,
    ⟨.l 33, .p (.bin .add), [.l 29, .l 32], none⟩,
    ⟨.l 34, .p (.bin .add), [.l 33, .k (.m (.i .i64 1))], none⟩,
    ⟨.v 35, .p (.bin .leq), [.l 28, .l 34], none⟩])
  (.ite (.v 35)
    .skip
    (.ex 0)))
  (.seq
  (.blk 1
  (.seq
  (.reg [⟨.l 38, .l (.cal 99), [.v 9], none⟩,
    ⟨.l 39, .p .mv, [.v 10], none⟩,
    ⟨.l 40, .p (.bin .sub), [.l 39, .k (.m (.i .u64 1))], none⟩,
    ⟨.l 41, .p (.bin .and), [.l 38, .l 40], none⟩,
    ⟨.l 42, .p (.cv .i64), [.l 41], none⟩,
    ⟨.v 12, .p .mv, [.l 42], none⟩])
  (.seq
  (.seq
  (.reg [⟨.l 43, .p .mv, [.v 12], none⟩,
    ⟨.l 44, .p .mv, [.v 8], none⟩,
    ⟨.v 45, .p (.bin .geq), [.l 43, .l 44], none⟩])
  (.ite (.v 45)
    (.reg [⟨.l 46, .p .mv, [.v 12], none⟩,
      ⟨.l 47, .p .mv, [.v 8], none⟩,
      ⟨.l 48, .p (.bin .sub), [.l 46, .l 47], none⟩,
      ⟨.v 12, .p .mv, [.l 48], none⟩])
    .skip))
  (.reg [⟨.l 49, .p .mv, [.v 0], none⟩,
    ⟨.l 50, .p .mv, [.v 11], none⟩,
    ⟨.l 51, .p .mv, [.v 0], none⟩,
    ⟨.l 52, .p .mv, [.v 1], none⟩,
    ⟨.l 53, .p .mv, [.v 12], none⟩,
    ⟨.l 54, .p (.bin .add), [.l 52, .l 53], none⟩,
    ⟨.l 55, .p .mv, [.v 0], none⟩,
    ⟨.l 56, .p .mv, [.v 1], none⟩,
    ⟨.l 57, .p .mv, [.v 12], none⟩,
    ⟨.l 58, .p (.bin .add), [.l 56, .l 57], none⟩,
    ⟨.l 59, .p (.ixa 3), [.l 55, .l 58], none⟩,
    ⟨.l 60, .r (.ld true 3), [.l 59], none⟩,
    ⟨.l 61, .p .mv, [.v 0], none⟩,
    ⟨.l 62, .p .mv, [.v 11], none⟩,
    ⟨.l 63, .p (.ixa 3), [.l 61, .l 62], none⟩,
    ⟨.l 64, .r (.ld true 3), [.l 63], none⟩,
    ⟨.l 65, .p (.ixa 3), [.l 49, .l 50], none⟩,
    ⟨.no, .l (.st 3), [.l 65, .l 60], none⟩,
    ⟨.l 66, .p (.ixa 3), [.l 51, .l 54], none⟩,
    ⟨.no, .l (.st 3), [.l 66, .l 64], none⟩]))))
  (.reg [⟨.l 36, .p .mv, [.v 11], none⟩,
    ⟨.l 37, .p (.bin .add), [.l 36, .k (.m (.i .i64 1))], none⟩,
    ⟨.v 11, .p .mv, [.l 37], none⟩])))
def c83_L0 : C := .loop [2, 3, 12, 17, 35, 45] c83_B0
def c83 : F := ⟨4, [],
  (.seq
  (.reg [⟨.l 13, .p .mv, [.v 2], none⟩,
    ⟨.l 14, .p .mv, [.v 1], none⟩,
    ⟨.l 15, .p (.bin .sub), [.l 13, .l 14], none⟩,
    ⟨.v 8, .p .mv, [.l 15], none⟩])
  (.seq
  (.reg [⟨.l 16, .p .mv, [.v 8], none⟩,
    ⟨.v 17, .p (.bin .geq), [.l 16, .k (.m (.i .i64 8))], none⟩])
  (.ite (.v 17)
    (.seq
    (.reg [⟨.l 18, .p .mv, [.v 8], none⟩,
      ⟨.l 19, .p (.cv .u64), [.l 18], none⟩,
      ⟨.v 9, .l (.als 122 1 1 [.m (.i .u64 0)]), [], none⟩,
      ⟨.no, .l (.st 1), [.v 9, .l 19], none⟩])
    (.seq
    (.reg [⟨.l 20, .p .mv, [.v 8], none⟩,
      ⟨.l 21, .l (.cal 98), [.l 20], none⟩,
      ⟨.v 10, .p .mv, [.l 21], none⟩])
    (.seq
    (.reg [⟨.l 22, .p .mv, [.v 1], none⟩,
      ⟨.l 23, .p .mv, [.v 8], none⟩,
      ⟨.l 24, .p (.bin .quo), [.l 23, .k (.m (.i .i64 4))], none⟩,
      ⟨.l 25, .p (.bin .mul), [.l 24, .k (.m (.i .i64 2))], none⟩,
      ⟨.l 26, .p (.bin .add), [.l 22, .l 25], none⟩,
      ⟨.l 27, .p (.bin .sub), [.l 26, .k (.m (.i .i64 1))], none⟩,
      ⟨.v 11, .p .mv, [.l 27], none⟩])
    (.blk 0
    c83_L0))))
    .skip)))⟩

/- slices.choosePivotCmpFunc[cellular/api.Cell] -/
def c84 : F := ⟨4, [.t 8, .t 9],
  (.seq
  (.reg [⟨.v 8, .p .mv, [.k (.m (.i .i64 0))], none⟩,
    ⟨.v 9, .p .mv, [.k (.m (.i .i64 0))], none⟩])
  (.seq
  (.reg [⟨.l 15, .p .mv, [.v 2], none⟩,
    ⟨.l 16, .p .mv, [.v 1], none⟩,
    ⟨.l 17, .p (.bin .sub), [.l 15, .l 16], none⟩,
    ⟨.v 10, .p .mv, [.l 17], none⟩])
  (.seq
  (.reg [⟨.v 11, .l (.als 3 1 1 [.m (.i .i64 0)]), [], none⟩])
  (.seq
  (.reg [⟨.l 18, .p .mv, [.v 1], none⟩,
    ⟨.l 19, .p .mv, [.v 10], none⟩,
    ⟨.l 20, .p (.bin .quo), [.l 19, .k (.m (.i .i64 4))], none⟩,
    ⟨.l 21, .p (.bin .mul), [.l 20, .k (.m (.i .i64 1))], none⟩,
    ⟨.l 22, .p (.bin .add), [.l 18, .l 21], none⟩,
    ⟨.v 12, .p .mv, [.l 22], none⟩])
  (.seq
  (.reg [⟨.l 23, .p .mv, [.v 1], none⟩,
    ⟨.l 24, .p .mv, [.v 10], none⟩,
    ⟨.l 25, .p (.bin .quo), [.l 24, .k (.m (.i .i64 4))], none⟩,
    ⟨.l 26, .p (.bin .mul), [.l 25, .k (.m (.i .i64 2))], none⟩,
    ⟨.l 27, .p (.bin .add), [.l 23, .l 26], none⟩,
    ⟨.v 13, .p .mv, [.l 27], none⟩])
  (.seq
  (.reg [⟨.l 28, .p .mv, [.v 1], none⟩,
    ⟨.l 29, .p .mv, [.v 10], none⟩,
    ⟨.l 30, .p (.bin .quo), [.l 29, .k (.m (.i .i64 4))], none⟩,
    ⟨.l 31, .p (.bin .mul), [.l 30, .k (.m (.i .i64 3))], none⟩,
    ⟨.l 32, .p (.bin .add), [.l 28, .l 31], none⟩,
    ⟨.v 14, .p .mv, [.l 32], none⟩])
  (.seq
  (.seq
  (.reg [⟨.l 33, .p .mv, [.v 10], none⟩,
    ⟨.v 34, .p (.bin .geq), [.l 33, .k (.m (.i .i64 8))], none⟩])
  (.ite (.v 34)
    (.seq
    (.seq
    (.reg [⟨.l 35, .p .mv, [.v 10], none⟩,
      ⟨.v 36, .p (.bin .geq), [.l 35, .k (.m (.i .i64 50))], none⟩])
    (.ite (.v 36)
      (.seq
      (.reg [⟨.l 37, .p .mv, [.v 0], none⟩,
        ⟨.l 38, .p .mv, [.v 12], none⟩,
        ⟨.l 39, .p .mv, [.v 3], none⟩,
        ⟨.l 40, .l (.cal 100), [.l 37, .l 38, .v 11, .l 39], none⟩,
        ⟨.v 12, .p .mv, [.l 40], none⟩])
      (.seq
      (.reg [⟨.l 41, .p .mv, [.v 0], none⟩,
        ⟨.l 42, .p .mv, [.v 13], none⟩,
        ⟨.l 43, .p .mv, [.v 3], none⟩,
        ⟨.l 44, .l (.cal 100), [.l 41, .l 42, .v 11, .l 43], none⟩,
        ⟨.v 13, .p .mv, [.l 44], none⟩])
      (.reg [⟨.l 45, .p .mv, [.v 0], none⟩,
        ⟨.l 46, .p .mv, [.v 14], none⟩,
        ⟨.l 47, .p .mv, [.v 3], none⟩,
        ⟨.l 48, .l (.cal 100), [.l 45, .l 46, .v 11, .l 47], none⟩,
        ⟨.v 14, .p .mv, [.l 48], none⟩])))
      .skip))
    (.reg [⟨.l 49, .p .mv, [.v 0], none⟩,
      ⟨.l 50, .p .mv, [.v 12], none⟩,
      ⟨.l 51, .p .mv, [.v 13], none⟩,
      ⟨.l 52, .p .mv, [.v 14], none⟩,
      ⟨.l 53, .p .mv, [.v 3], none⟩,
      ⟨.l 54, .l (.cal 101), [.l 49, .l 50, .l 51, .l 52, .v 11, .l 53], none⟩,
      ⟨.v 13, .p .mv, [.l 54], none⟩]))
    .skip))
  (.seq
  (.reg [⟨.v 55, .r (.ld false 1), [.v 11], none⟩])
  (.blk 0
  (.seq
  (.reg [⟨.l 58, .p (.bin .eql), [.v 55, .k (.m (.i .i64 0))], none⟩,
    ⟨.v 57, .p .mv, [.l 58], none⟩])
  (.ite (.v 57)
    (.seq
    (.reg [⟨.l 59, .p .mv, [.v 13], none⟩,
      ⟨.v 8, .p .mv, [.l 59], none⟩,
      ⟨.v 9, .p .mv, [.k (.m (.i .i64 1))], none⟩])
    .ret)
    (.seq
    (.reg [⟨.l 61, .p (.bin .eql), [.v 55, .k (.m (.i .i64 12))], none⟩,
      ⟨.v 60, .p .mv, [.l 61], none⟩])
    (.ite (.v 60)
      (.seq
      (.reg [⟨.l 62, .p .mv, [.v 13], none⟩,
        ⟨.v 8, .p .mv, [.l 62], none⟩,
        ⟨.v 9, .p .mv, [.k (.m (.i .i64 2))], none⟩])
      .ret)
      (.seq
      (.reg [⟨.l 56, .p .mv, [.v 13], none⟩,
        ⟨.v 8, .p .mv, [.l 56], none⟩,
        ⟨.v 9, .p .mv, [.k (.m (.i .i64 0))], none⟩])
      .ret))))))))))))))⟩

/- slices.reverseRangeCmpFunc[cellular/api.Cell] -/
def c85_B0 : C :=
  (.seq
  (.seq
  (.reg [⟨.l 13, .p .mv, [.v 8], none⟩,
    ⟨.l 14, .p .mv, [.v 9], none⟩,
    ⟨.v 15, .p (.bin .lss), [.l 13, .l 14], none⟩])
  (.ite (.v 15)
    .skip
    (.ex 0)))
  (.blk 1
  (.seq
  (.reg [⟨.l 16, .p .mv, [.v 0], none⟩,
    ⟨.l 17, .p .mv, [.v 8], none⟩,
    ⟨.l 18, .p .mv, [.v 0], none⟩,
    ⟨.l 19, .p .mv, [.v 9], none⟩,
    ⟨.l 20, .p .mv, [.v 0], none⟩,
    ⟨.l 21, .p .mv, [.v 9], none⟩,
    ⟨.l 22, .p (.ixa 3), [.l 20, .l 21], none⟩,
    ⟨.l 23, .r (.ld true 3), [.l 22], none⟩,
    ⟨.l 24, .p .mv, [.v 0], none⟩,
    ⟨.l 25, .p .mv, [.v 8], none⟩,
    ⟨.l 26, .p (.ixa 3), [.l 24, .l 25], none⟩,
    ⟨.l 27, .r (.ld true 3), [.l 26], none⟩,
    ⟨.l 28, .p (.ixa 3), [.l 16, .l 17], none⟩,
    ⟨.no, .l (.st 3), [.l 28, .l 23], none⟩,
    ⟨.l 29, .p (.ixa 3), [.l 18, .l 19], none⟩,
    ⟨.no, .l (.st 3), [.l 29, .l 27], none⟩])
  (.seq
  (.reg [⟨.l 30, .p .mv, [.v 8], none⟩,
    ⟨.l 31, .p (.bin .add), [.l 30, .k (.m (.i .i64 1))], none⟩,
    ⟨.v 8, .p .mv, [.l 31], none⟩])
  (.reg [⟨.l 32, .p .mv, [.v 9], none⟩,
    ⟨.l 33, .p (.bin .sub), [.l 32, .k (.m (.i .i64 1))], none⟩,
    ⟨.v 9, .p .mv, [.l 33], none⟩])))))
def c85_L0 : C := .loop [1, 2, 3, 15] c85_B0
def c85 : F := ⟨4, [],
  (.seq
  (.reg [⟨.l 10, .p .mv, [.v 1], none⟩,
    ⟨.v 8, .p .mv, [.l 10], none⟩])
  (.seq
  (.reg [⟨.l 11, .p .mv, [.v 2], none⟩,
    ⟨.l 12, .p (.bin .sub), [.l 11, .k (.m (.i .i64 1))], none⟩,
    ⟨.v 9, .p .mv, [.l 12], none⟩])
  (.blk 0
  c85_L0)))⟩


end Go.Mx.Tryd
