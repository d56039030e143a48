/- The compact code of the functions of this seat, printed by a program of my own; XComp checks it against the translation. -/
import Derived.Test.YtcdcepfigjohfaaGreatDoorRng
set_option maxRecDepth 100000
namespace Go.Mx.Tryz

/- cellular/cellularlaw40.FormulaSorts -/
def c4_B0 : C :=
  (.seq
  (.reg [⟨.v 51, .p (.bin .lss), [.v 50, .v 49], none⟩])
  (.seq
  (.ite (.v 51)
    .skip
    (.ex 0))
  (.seq
  (.blk 1
  (.seq
  (.reg [⟨.l 52, .p .mv, [.v 50], none⟩,
    ⟨.v 10, .p .mv, [.l 52], none⟩])
  (.reg [⟨.l 53, .p (.fad 1), [.v 9], none⟩,
    ⟨.l 54, .r (.ld false 1), [.l 53], none⟩,
    ⟨.l 55, .p (.fad 1), [.v 1], none⟩,
    ⟨.l 56, .r (.ld false 1), [.l 55], none⟩,
    ⟨.l 57, .p (.fad 1), [.v 1], none⟩,
    ⟨.l 58, .r (.ld false 1), [.l 57], none⟩,
    ⟨.l 59, .p (.len false), [.l 58], none⟩,
    ⟨.l 60, .p (.bin .sub), [.l 59, .k (.m (.i .i64 1))], none⟩,
    ⟨.l 61, .p .mv, [.v 10], none⟩,
    ⟨.l 62, .p (.bin .sub), [.l 60, .l 61], none⟩,
    ⟨.l 63, .p (.ixa 1), [.l 56, .l 62], none⟩,
    ⟨.l 64, .r (.ld false 1), [.l 63], none⟩,
    ⟨.l 65, .l (.bsf 1 [.m (.nl 4)] 1 [0]), [.l 64], none⟩,
    ⟨.l 66, .l (.app 35 1 24), [.l 54, .l 65], none⟩,
    ⟨.l 67, .p (.fad 1), [.v 9], none⟩,
    ⟨.no, .l (.st 1), [.l 67, .l 66], none⟩])))
  (.reg [⟨.l 68, .p (.bin .add), [.v 50, .k (.m (.i .i64 1))], none⟩,
    ⟨.v 50, .p .mv, [.l 68], none⟩]))))
def c4_L0 : C := .loop [0, 2, 4, 5, 6, 10, 15, 35, 37, 51] c4_B0
def c4 : F := ⟨1, [.t 2],
  (.seq
  (.reg [⟨.v 1, .l (.bxp 1 2), [.v 0], none⟩,
    ⟨.v 2, .p .mv, [.k (.m (.b false))], none⟩])
  (.seq
  (.seq
  (.reg [⟨.l 13, .r (.ld true 2), [.v 1], none⟩,
    ⟨.l 14, .l (.cal 9), [.l 13], none⟩,
    ⟨.v 15, .p (.un .not), [.l 14], none⟩])
  (.ite (.v 15)
    (.seq
    (.reg [⟨.l 16, .l (.cal 10), [], none⟩,
      ⟨.v 2, .p .mv, [.l 16], none⟩])
    .ret)
    .skip))
  (.seq
  (.reg [⟨.l 18, .r (.ld true 2), [.v 1], none⟩,
    ⟨.l 19, .l (.cal 15), [.l 18], none⟩,
    ⟨.l 17, .p .mv, [.l 19], none⟩,
    ⟨.l 20, .p (.ext 0), [.l 17], none⟩,
    ⟨.l 21, .p (.ext 1), [.l 17], none⟩,
    ⟨.v 3, .l (.alp 3 [.m (.i .i64 0), .m (.nl 4)]), [], none⟩,
    ⟨.no, .l (.st 2), [.v 3, .l 20], none⟩,
    ⟨.v 4, .p .mv, [.l 21], none⟩])
  (.seq
  (.reg [⟨.l 23, .r (.ld true 2), [.v 1], none⟩,
    ⟨.l 24, .l (.cal 16), [.l 23], none⟩,
    ⟨.l 22, .p .mv, [.l 24], none⟩,
    ⟨.l 25, .p (.ext 0), [.l 22], none⟩,
    ⟨.l 26, .p (.ext 1), [.l 22], none⟩,
    ⟨.v 5, .l (.alp 5 [.m (.i .i64 0), .m (.nl 4)]), [], none⟩,
    ⟨.no, .l (.st 2), [.v 5, .l 25], none⟩,
    ⟨.v 6, .p .mv, [.l 26], none⟩])
  (.seq
  (.seq
  (.reg [⟨.l 27, .r (.ld true 2), [.v 3], none⟩,
    ⟨.l 28, .r (.ld true 2), [.v 5], none⟩,
    ⟨.l 29, .l (.cal 17), [.l 27, .l 28], none⟩,
    ⟨.l 30, .p (.un .not), [.l 29], none⟩,
    ⟨.l 31, .p .mv, [.l 30], none⟩,
    ⟨.l 32, .p .mv, [.v 4], some (.l 31, false)⟩,
    ⟨.l 33, .p .mv, [.v 6], some (.l 31, false)⟩,
    ⟨.l 34, .p (.bin .neq), [.l 32, .l 33], some (.l 31, false)⟩,
    ⟨.v 35, .p .pick, [.l 31, .k (.m (.b true)), .l 34], none⟩])
  (.ite (.v 35)
    (.seq
    (.reg [⟨.v 2, .p .mv, [.k (.m (.b false))], none⟩])
    .ret)
    .skip))
  (.seq
  (.seq
  (.reg [⟨.l 36, .p .mv, [.v 4], none⟩,
    ⟨.v 37, .p (.bin .neq), [.l 36, .k (.m (.i .i64 0))], none⟩])
  (.ite (.v 37)
    (.seq
    (.reg [⟨.l 38, .l (.cal 10), [], none⟩,
      ⟨.v 2, .p .mv, [.l 38], none⟩])
    .ret)
    .skip))
  (.seq
  (.reg [⟨.l 40, .r (.ld true 2), [.v 3], none⟩,
    ⟨.l 41, .l (.cal 15), [.l 40], none⟩,
    ⟨.l 39, .p .mv, [.l 41], none⟩,
    ⟨.l 42, .p (.ext 0), [.l 39], none⟩,
    ⟨.l 43, .p (.ext 1), [.l 39], none⟩,
    ⟨.v 7, .l (.alp 7 [.m (.i .i64 0), .m (.nl 4)]), [], none⟩,
    ⟨.no, .l (.st 2), [.v 7, .l 42], none⟩,
    ⟨.v 8, .p .mv, [.l 43], none⟩])
  (.seq
  (.reg [⟨.l 44, .p (.fad 0), [.v 1], none⟩,
    ⟨.l 45, .r (.ld false 1), [.l 44], none⟩,
    ⟨.l 46, .p (.build [.m (.i .i64 0), .m (.nl 4)] [(0, 1)]), [.l 45], none⟩,
    ⟨.v 9, .l (.alp 9 [.m (.i .i64 0), .m (.nl 4)]), [], none⟩,
    ⟨.no, .l (.st 2), [.v 9, .l 46], none⟩])
  (.seq
  (.seq
  (.reg [⟨.l 47, .p (.fad 1), [.v 1], none⟩,
    ⟨.l 48, .r (.ld false 1), [.l 47], none⟩,
    ⟨.v 49, .p (.len false), [.l 48], none⟩,
    ⟨.v 50, .p .mv, [.k (.m (.i .i64 0))], none⟩])
  (.blk 0
  c4_L0))
  (.seq
  (.reg [⟨.l 70, .r (.ld true 2), [.v 9], none⟩,
    ⟨.l 71, .l (.cal 15), [.l 70], none⟩,
    ⟨.l 69, .p .mv, [.l 71], none⟩,
    ⟨.l 72, .p (.ext 0), [.l 69], none⟩,
    ⟨.l 73, .p (.ext 1), [.l 69], none⟩,
    ⟨.v 11, .l (.alp 11 [.m (.i .i64 0), .m (.nl 4)]), [], none⟩,
    ⟨.no, .l (.st 2), [.v 11, .l 72], none⟩,
    ⟨.v 12, .p .mv, [.l 73], none⟩])
  (.seq
  (.reg [⟨.l 74, .p .mv, [.v 8], none⟩,
    ⟨.l 75, .p (.bin .eql), [.l 74, .k (.m (.i .i64 0))], none⟩,
    ⟨.l 76, .p .mv, [.l 75], none⟩,
    ⟨.l 77, .p .mv, [.v 12], some (.l 76, true)⟩,
    ⟨.l 78, .p (.bin .eql), [.l 77, .k (.m (.i .i64 0))], some (.l 76, true)⟩,
    ⟨.l 79, .p .pick, [.l 76, .l 78, .k (.m (.b false))], none⟩,
    ⟨.l 80, .p .mv, [.l 79], none⟩,
    ⟨.l 81, .r (.ld true 2), [.v 7], some (.l 80, true)⟩,
    ⟨.l 82, .r (.ld true 2), [.v 3], some (.l 80, true)⟩,
    ⟨.l 83, .l (.cal 17), [.l 81, .l 82], some (.l 80, true)⟩,
    ⟨.l 84, .p .pick, [.l 80, .l 83, .k (.m (.b false))], none⟩,
    ⟨.l 85, .p .mv, [.l 84], none⟩,
    ⟨.l 86, .r (.ld true 2), [.v 11], some (.l 85, true)⟩,
    ⟨.l 87, .r (.ld true 2), [.v 3], some (.l 85, true)⟩,
    ⟨.l 88, .l (.cal 17), [.l 86, .l 87], some (.l 85, true)⟩,
    ⟨.l 89, .p .pick, [.l 85, .l 88, .k (.m (.b false))], none⟩,
    ⟨.l 90, .p .mv, [.l 89], none⟩,
    ⟨.l 91, .l (.cal 10), [], some (.l 90, true)⟩,
    ⟨.l 92, .p .pick, [.l 90, .l 91, .k (.m (.b false))], none⟩,
    ⟨.v 2, .p .mv, [.l 92], none⟩])
  .ret)))))))))))⟩

/- cellular/cellularlaw40.FormulaAssumes -/
def c5 : F := ⟨2, [.t 4],
  (.seq
  (.reg [⟨.v 2, .l (.bxp 2 2), [.v 0], none⟩,
    ⟨.v 4, .p .mv, [.k (.m (.b false))], none⟩])
  (.seq
  (.seq
  (.reg [⟨.l 15, .r (.ld true 2), [.v 2], none⟩,
    ⟨.l 16, .l (.cal 9), [.l 15], none⟩,
    ⟨.l 17, .p (.un .not), [.l 16], none⟩,
    ⟨.l 18, .p .mv, [.l 17], none⟩,
    ⟨.l 19, .p .mv, [.v 1], some (.l 18, false)⟩,
    ⟨.l 20, .p (.len false), [.l 19], some (.l 18, false)⟩,
    ⟨.l 21, .p (.bin .gtr), [.l 20, .k (.m (.i .i64 30))], some (.l 18, false)⟩,
    ⟨.v 22, .p .pick, [.l 18, .k (.m (.b true)), .l 21], none⟩])
  (.ite (.v 22)
    (.seq
    (.reg [⟨.l 23, .l (.cal 10), [], none⟩,
      ⟨.v 4, .p .mv, [.l 23], none⟩])
    .ret)
    .skip))
  (.seq
  (.reg [⟨.l 25, .r (.ld true 2), [.v 2], none⟩,
    ⟨.l 26, .p .mv, [.v 1], none⟩,
    ⟨.l 27, .l (.cal 18), [.l 25, .l 26], none⟩,
    ⟨.l 24, .p .mv, [.l 27], none⟩,
    ⟨.l 28, .p (.ext 0), [.l 24], none⟩,
    ⟨.l 29, .p (.ext 1), [.l 24], none⟩,
    ⟨.v 5, .l (.alp 5 [.m (.i .i64 0), .m (.nl 4)]), [], none⟩,
    ⟨.no, .l (.st 2), [.v 5, .l 28], none⟩,
    ⟨.v 6, .p .mv, [.l 29], none⟩])
  (.seq
  (.reg [⟨.l 31, .r (.ld true 2), [.v 2], none⟩,
    ⟨.l 32, .p .mv, [.v 1], none⟩,
    ⟨.l 33, .l (.cal 19), [.l 31, .l 32], none⟩,
    ⟨.l 30, .p .mv, [.l 33], none⟩,
    ⟨.l 34, .p (.ext 0), [.l 30], none⟩,
    ⟨.l 35, .p (.ext 1), [.l 30], none⟩,
    ⟨.v 7, .l (.alp 7 [.m (.i .i64 0), .m (.nl 4)]), [], none⟩,
    ⟨.no, .l (.st 2), [.v 7, .l 34], none⟩,
    ⟨.v 8, .p .mv, [.l 35], none⟩])
  (.seq
  (.reg [⟨.l 37, .r (.ld true 2), [.v 2], none⟩,
    ⟨.l 38, .p .mv, [.v 1], none⟩,
    ⟨.l 39, .l (.cal 20), [.l 37, .l 38], none⟩,
    ⟨.l 36, .p .mv, [.l 39], none⟩,
    ⟨.l 40, .p (.ext 0), [.l 36], none⟩,
    ⟨.l 41, .p (.ext 1), [.l 36], none⟩,
    ⟨.l 42, .p (.ext 2), [.l 36], none⟩,
    ⟨.v 9, .p .mv, [.l 40], none⟩,
    ⟨.v 10, .p .mv, [.l 41], none⟩,
    ⟨.v 11, .p .mv, [.l 42], none⟩])
  (.seq
  (.reg [⟨.l 44, .r (.ld true 2), [.v 2], none⟩,
    ⟨.l 45, .p .mv, [.v 1], none⟩,
    ⟨.l 46, .l (.cal 21), [.l 44, .l 45], none⟩,
    ⟨.l 43, .p .mv, [.l 46], none⟩,
    ⟨.l 47, .p (.ext 0), [.l 43], none⟩,
    ⟨.l 48, .p (.ext 1), [.l 43], none⟩,
    ⟨.l 49, .p (.ext 2), [.l 43], none⟩,
    ⟨.v 12, .p .mv, [.l 47], none⟩,
    ⟨.v 13, .p .mv, [.l 48], none⟩,
    ⟨.v 14, .p .mv, [.l 49], none⟩])
  (.seq
  (.reg [⟨.l 50, .r (.ld true 2), [.v 5], none⟩,
    ⟨.l 51, .r (.ld true 2), [.v 7], none⟩,
    ⟨.l 52, .l (.cal 17), [.l 50, .l 51], none⟩,
    ⟨.l 53, .p .mv, [.l 52], none⟩,
    ⟨.l 54, .p .mv, [.v 6], some (.l 53, true)⟩,
    ⟨.l 55, .p .mv, [.v 8], some (.l 53, true)⟩,
    ⟨.l 56, .p (.bin .eql), [.l 54, .l 55], some (.l 53, true)⟩,
    ⟨.l 57, .p .pick, [.l 53, .l 56, .k (.m (.b false))], none⟩,
    ⟨.l 58, .p .mv, [.l 57], none⟩,
    ⟨.l 59, .p .mv, [.v 9], some (.l 58, true)⟩,
    ⟨.l 60, .p .mv, [.v 12], some (.l 58, true)⟩,
    ⟨.l 61, .l (.cal 22), [.l 59, .l 60], some (.l 58, true)⟩,
    ⟨.l 62, .p .pick, [.l 58, .l 61, .k (.m (.b false))], none⟩,
    ⟨.l 63, .p .mv, [.l 62], none⟩,
    ⟨.l 64, .p .mv, [.v 10], some (.l 63, true)⟩,
    ⟨.l 65, .p .mv, [.v 13], some (.l 63, true)⟩,
    ⟨.l 66, .p (.eqb false), [.l 64, .l 65], some (.l 63, true)⟩,
    ⟨.l 67, .p .pick, [.l 63, .l 66, .k (.m (.b false))], none⟩,
    ⟨.l 68, .p .mv, [.l 67], none⟩,
    ⟨.l 69, .p .mv, [.v 11], some (.l 68, true)⟩,
    ⟨.l 70, .p .mv, [.v 14], some (.l 68, true)⟩,
    ⟨.l 71, .p (.bin .eql), [.l 69, .l 70], some (.l 68, true)⟩,
    ⟨.l 72, .p .pick, [.l 68, .l 71, .k (.m (.b false))], none⟩,
    ⟨.l 73, .p .mv, [.l 72], none⟩,
    ⟨.l 74, .l (.cal 10), [], some (.l 73, true)⟩,
    ⟨.l 75, .p .pick, [.l 73, .l 74, .k (.m (.b false))], none⟩,
    ⟨.v 4, .p .mv, [.l 75], none⟩])
  .ret)))))))⟩

/- cellular/cellularlaw40.FormulaMeaning -/
def c8 : F := ⟨3, [.t 6],
  (.seq
  (.reg [⟨.v 3, .l (.bxp 3 2), [.v 0], none⟩,
    ⟨.v 6, .p .mv, [.k (.m (.b false))], none⟩])
  (.seq
  (.seq
  (.reg [⟨.l 20, .r (.ld true 2), [.v 3], none⟩,
    ⟨.l 21, .l (.cal 9), [.l 20], none⟩,
    ⟨.l 22, .p (.un .not), [.l 21], none⟩,
    ⟨.l 23, .p .mv, [.l 22], none⟩,
    ⟨.l 24, .p .mv, [.v 1], some (.l 23, false)⟩,
    ⟨.l 25, .p (.len false), [.l 24], some (.l 23, false)⟩,
    ⟨.l 26, .p (.bin .gtr), [.l 25, .k (.m (.i .i64 5000))], some (.l 23, false)⟩,
    ⟨.l 27, .p .pick, [.l 23, .k (.m (.b true)), .l 26], none⟩,
    ⟨.l 28, .p .mv, [.l 27], none⟩,
    ⟨.l 29, .p .mv, [.v 2], some (.l 28, false)⟩,
    ⟨.l 30, .p (.len false), [.l 29], some (.l 28, false)⟩,
    ⟨.l 31, .p (.bin .gtr), [.l 30, .k (.m (.i .i64 30))], some (.l 28, false)⟩,
    ⟨.v 32, .p .pick, [.l 28, .k (.m (.b true)), .l 31], none⟩])
  (.ite (.v 32)
    (.seq
    (.reg [⟨.l 33, .l (.cal 10), [], none⟩,
      ⟨.v 6, .p .mv, [.l 33], none⟩])
    .ret)
    .skip))
  (.seq
  (.reg [⟨.l 35, .r (.ld true 2), [.v 3], none⟩,
    ⟨.l 36, .p .mv, [.v 1], none⟩,
    ⟨.l 37, .l (.cal 11), [.l 35, .l 36], none⟩,
    ⟨.l 34, .p .mv, [.l 37], none⟩,
    ⟨.l 38, .p (.ext 0), [.l 34], none⟩,
    ⟨.l 39, .p (.ext 1), [.l 34], none⟩,
    ⟨.v 7, .p .mv, [.l 38], none⟩,
    ⟨.v 8, .p .mv, [.l 39], none⟩])
  (.seq
  (.seq
  (.reg [⟨.l 40, .p .mv, [.v 8], none⟩,
    ⟨.v 41, .p (.bin .neq), [.l 40, .k (.m (.i .i64 0))], none⟩])
  (.ite (.v 41)
    (.seq
    (.reg [⟨.l 42, .p .mv, [.v 7], none⟩,
      ⟨.l 43, .p (.un .not), [.l 42], none⟩,
      ⟨.l 44, .p .mv, [.l 43], none⟩,
      ⟨.l 45, .l (.cal 10), [], some (.l 44, true)⟩,
      ⟨.l 46, .p .pick, [.l 44, .l 45, .k (.m (.b false))], none⟩,
      ⟨.v 6, .p .mv, [.l 46], none⟩])
    .ret)
    .skip))
  (.seq
  (.reg [⟨.l 48, .r (.ld true 2), [.v 3], none⟩,
    ⟨.l 49, .l (.cal 15), [.l 48], none⟩,
    ⟨.l 47, .p .mv, [.l 49], none⟩,
    ⟨.l 50, .p (.ext 0), [.l 47], none⟩,
    ⟨.l 51, .p (.ext 1), [.l 47], none⟩,
    ⟨.v 9, .l (.alp 9 [.m (.i .i64 0), .m (.nl 4)]), [], none⟩,
    ⟨.no, .l (.st 2), [.v 9, .l 50], none⟩,
    ⟨.v 10, .p .mv, [.l 51], none⟩])
  (.seq
  (.reg [⟨.l 53, .r (.ld true 2), [.v 9], none⟩,
    ⟨.l 54, .p .mv, [.v 1], none⟩,
    ⟨.l 55, .l (.cal 11), [.l 53, .l 54], none⟩,
    ⟨.l 52, .p .mv, [.l 55], none⟩,
    ⟨.l 56, .p (.ext 0), [.l 52], none⟩,
    ⟨.l 57, .p (.ext 1), [.l 52], none⟩,
    ⟨.v 11, .p .mv, [.l 56], none⟩,
    ⟨.v 12, .p .mv, [.l 57], none⟩])
  (.seq
  (.seq
  (.reg [⟨.l 58, .p .mv, [.v 10], none⟩,
    ⟨.l 59, .p (.bin .neq), [.l 58, .k (.m (.i .i64 0))], none⟩,
    ⟨.l 60, .p .mv, [.l 59], none⟩,
    ⟨.l 61, .p .mv, [.v 12], some (.l 60, false)⟩,
    ⟨.l 62, .p (.bin .neq), [.l 61, .k (.m (.i .i64 0))], some (.l 60, false)⟩,
    ⟨.l 63, .p .pick, [.l 60, .k (.m (.b true)), .l 62], none⟩,
    ⟨.l 64, .p .mv, [.l 63], none⟩,
    ⟨.l 65, .p .mv, [.v 7], some (.l 64, false)⟩,
    ⟨.l 66, .p .mv, [.v 11], some (.l 64, false)⟩,
    ⟨.l 67, .p (.eqb true), [.l 65, .l 66], some (.l 64, false)⟩,
    ⟨.v 68, .p .pick, [.l 64, .k (.m (.b true)), .l 67], none⟩])
  (.ite (.v 68)
    (.seq
    (.reg [⟨.v 6, .p .mv, [.k (.m (.b false))], none⟩])
    .ret)
    .skip))
  (.seq
  (.seq
  (.reg [⟨.l 69, .p .mv, [.v 2], none⟩,
    ⟨.l 70, .p .mv, [.v 1], none⟩,
    ⟨.l 71, .l (.cal 27), [.l 69, .l 70], none⟩,
    ⟨.v 72, .p (.un .not), [.l 71], none⟩])
  (.ite (.v 72)
    (.seq
    (.reg [⟨.l 73, .l (.cal 10), [], none⟩,
      ⟨.v 6, .p .mv, [.l 73], none⟩])
    .ret)
    .skip))
  (.seq
  (.reg [⟨.l 75, .r (.ld true 2), [.v 3], none⟩,
    ⟨.l 76, .p .mv, [.v 2], none⟩,
    ⟨.l 77, .l (.cal 18), [.l 75, .l 76], none⟩,
    ⟨.l 74, .p .mv, [.l 77], none⟩,
    ⟨.l 78, .p (.ext 0), [.l 74], none⟩,
    ⟨.l 79, .p (.ext 1), [.l 74], none⟩,
    ⟨.v 13, .l (.alp 13 [.m (.i .i64 0), .m (.nl 4)]), [], none⟩,
    ⟨.no, .l (.st 2), [.v 13, .l 78], none⟩,
    ⟨.v 14, .p .mv, [.l 79], none⟩])
  (.seq
  (.reg [⟨.l 81, .r (.ld true 2), [.v 13], none⟩,
    ⟨.l 82, .p .mv, [.v 1], none⟩,
    ⟨.l 83, .l (.cal 11), [.l 81, .l 82], none⟩,
    ⟨.l 80, .p .mv, [.l 83], none⟩,
    ⟨.l 84, .p (.ext 0), [.l 80], none⟩,
    ⟨.l 85, .p (.ext 1), [.l 80], none⟩,
    ⟨.v 15, .p .mv, [.l 84], none⟩,
    ⟨.v 16, .p .mv, [.l 85], none⟩])
  (.seq
  (.reg [⟨.l 87, .r (.ld true 2), [.v 3], none⟩,
    ⟨.l 88, .p .mv, [.v 2], none⟩,
    ⟨.l 89, .l (.cal 20), [.l 87, .l 88], none⟩,
    ⟨.l 86, .p .mv, [.l 89], none⟩,
    ⟨.l 90, .p (.ext 0), [.l 86], none⟩,
    ⟨.l 91, .p (.ext 1), [.l 86], none⟩,
    ⟨.l 92, .p (.ext 2), [.l 86], none⟩,
    ⟨.v 17, .p .mv, [.l 90], none⟩,
    ⟨.v 18, .p .mv, [.l 91], none⟩,
    ⟨.v 19, .p .mv, [.l 92], none⟩])
  (.seq
  (.seq
  (.reg [⟨.l 93, .p .mv, [.v 14], none⟩,
    ⟨.l 94, .p (.bin .neq), [.l 93, .k (.m (.i .i64 0))], none⟩,
    ⟨.l 95, .p .mv, [.l 94], none⟩,
    ⟨.l 96, .p .mv, [.v 16], some (.l 95, false)⟩,
    ⟨.l 97, .p (.bin .neq), [.l 96, .k (.m (.i .i64 0))], some (.l 95, false)⟩,
    ⟨.l 98, .p .pick, [.l 95, .k (.m (.b true)), .l 97], none⟩,
    ⟨.l 99, .p .mv, [.l 98], none⟩,
    ⟨.l 100, .p .mv, [.v 19], some (.l 99, false)⟩,
    ⟨.l 101, .p (.bin .neq), [.l 100, .k (.m (.i .i64 0))], some (.l 99, false)⟩,
    ⟨.l 102, .p .pick, [.l 99, .k (.m (.b true)), .l 101], none⟩,
    ⟨.l 103, .p .mv, [.l 102], none⟩,
    ⟨.l 104, .p .mv, [.v 15], some (.l 103, false)⟩,
    ⟨.l 105, .p .mv, [.v 7], some (.l 103, false)⟩,
    ⟨.l 106, .p (.eqb true), [.l 104, .l 105], some (.l 103, false)⟩,
    ⟨.v 107, .p .pick, [.l 103, .k (.m (.b true)), .l 106], none⟩])
  (.ite (.v 107)
    (.seq
    (.reg [⟨.v 6, .p .mv, [.k (.m (.b false))], none⟩])
    .ret)
    .skip))
  (.seq
  (.reg [⟨.l 108, .p .mv, [.v 7], none⟩,
    ⟨.l 109, .p (.un .not), [.l 108], none⟩,
    ⟨.l 110, .p .mv, [.l 109], none⟩,
    ⟨.l 111, .p .mv, [.v 18], some (.l 110, false)⟩,
    ⟨.l 112, .p .mv, [.l 111], some (.l 110, false)⟩,
    ⟨.l 113, .p .mv, [.v 17], some (.l 112, true)⟩,
    ⟨.l 114, .p .mv, [.v 1], some (.l 112, true)⟩,
    ⟨.l 115, .l (.cal 27), [.l 113, .l 114], some (.l 112, true)⟩,
    ⟨.l 116, .p .pick, [.l 112, .l 115, .k (.m (.b false))], some (.l 110, false)⟩,
    ⟨.l 117, .p .pick, [.l 110, .k (.m (.b true)), .l 116], none⟩,
    ⟨.l 118, .p .mv, [.l 117], none⟩,
    ⟨.l 119, .l (.cal 10), [], some (.l 118, true)⟩,
    ⟨.l 120, .p .pick, [.l 118, .l 119, .k (.m (.b false))], none⟩,
    ⟨.v 6, .p .mv, [.l 120], none⟩])
  .ret)))))))))))))⟩

/- cellular/cellularlaw40.few -/
def c9_B0 : C :=
  (.seq
  (.reg [⟨.v 12, .p (.bin .lss), [.v 11, .v 10], none⟩])
  (.seq
  (.ite (.v 12)
    .skip
    (.ex 0))
  (.seq
  (.blk 1
  (.seq
  (.reg [⟨.l 13, .p .mv, [.v 11], none⟩,
    ⟨.v 3, .p .mv, [.l 13], none⟩])
  (.seq
  (.reg [⟨.l 14, .p (.fad 1), [.v 1], none⟩,
    ⟨.l 15, .r (.ld false 1), [.l 14], none⟩,
    ⟨.l 16, .p .mv, [.v 3], none⟩,
    ⟨.l 17, .p (.ixa 1), [.l 15, .l 16], none⟩,
    ⟨.l 18, .r (.ld false 1), [.l 17], none⟩,
    ⟨.l 19, .p (.len false), [.l 18], none⟩,
    ⟨.v 20, .p (.bin .gtr), [.l 19, .k (.m (.i .i64 30))], none⟩])
  (.ite (.v 20)
    (.seq
    (.reg [⟨.v 2, .p .mv, [.k (.m (.b false))], none⟩])
    .ret)
    .skip))))
  (.reg [⟨.l 21, .p (.bin .add), [.v 11, .k (.m (.i .i64 1))], none⟩,
    ⟨.v 11, .p .mv, [.l 21], none⟩]))))
def c9_L0 : C := .loop [0, 2, 3, 7, 12, 20] c9_B0
def c9 : F := ⟨1, [.t 2],
  (.seq
  (.reg [⟨.v 1, .l (.bxp 1 2), [.v 0], none⟩,
    ⟨.v 2, .p .mv, [.k (.m (.b false))], none⟩])
  (.seq
  (.seq
  (.reg [⟨.l 4, .p (.fad 1), [.v 1], none⟩,
    ⟨.l 5, .r (.ld false 1), [.l 4], none⟩,
    ⟨.l 6, .p (.len false), [.l 5], none⟩,
    ⟨.v 7, .p (.bin .gtr), [.l 6, .k (.m (.i .i64 60))], none⟩])
  (.ite (.v 7)
    (.seq
    (.reg [⟨.v 2, .p .mv, [.k (.m (.b false))], none⟩])
    .ret)
    .skip))
  (.seq
  (.seq
  (.reg [⟨.l 8, .p (.fad 1), [.v 1], none⟩,
    ⟨.l 9, .r (.ld false 1), [.l 8], none⟩,
    ⟨.v 10, .p (.len false), [.l 9], none⟩,
    ⟨.v 11, .p .mv, [.k (.m (.i .i64 0))], none⟩])
  (.blk 0
  c9_L0))
  (.seq
  (.reg [⟨.v 2, .p .mv, [.k (.m (.b true))], none⟩])
  .ret))))⟩

/- cellular/cellularlaw40.awake -/
def c10 : F := ⟨0, [.t 0],
  (.seq
  (.reg [⟨.v 0, .p .mv, [.k (.m (.b false))], none⟩])
  (.seq
  (.reg [⟨.l 23, .p (.bsl 1 [.m (.i .i64 0)] 3 [0, 1, 2]), [.k (.m (.i .i64 2)), .k (.m (.i .i64 1)), .k (.m (.i .i64 2))], none⟩,
    ⟨.l 24, .p (.bsl 1 [.m (.i .i64 0)] 2 [0, 1]), [.k (.m (.i .i64 1)), .k (.m (.i .i64 (-1)))], none⟩,
    ⟨.l 25, .p (.bsl 1 [.m (.i .i64 0)] 2 [0, 1]), [.k (.m (.i .i64 1)), .k (.m (.i .i64 2))], none⟩,
    ⟨.l 26, .p (.bsl 1 [.m (.i .i64 0)] 1 [0]), [.k (.m (.i .i64 (-1)))], none⟩,
    ⟨.l 27, .l (.bsf 1 [.m (.nl 4)] 4 [0, 1, 2, 3]), [.l 23, .l 24, .l 25, .l 26], none⟩,
    ⟨.l 28, .p (.build [.m (.i .i64 0), .m (.nl 4)] [(0, 1), (1, 1)]), [.k (.m (.i .i64 2)), .l 27], none⟩,
    ⟨.l 29, .l (.cal 15), [.l 28], none⟩,
    ⟨.l 22, .p .mv, [.l 29], none⟩,
    ⟨.l 30, .p (.ext 0), [.l 22], none⟩,
    ⟨.l 31, .p (.ext 1), [.l 22], none⟩,
    ⟨.v 1, .l (.alp 1 [.m (.i .i64 0), .m (.nl 4)]), [], none⟩,
    ⟨.no, .l (.st 2), [.v 1, .l 30], none⟩,
    ⟨.v 2, .p .mv, [.l 31], none⟩])
  (.seq
  (.reg [⟨.l 32, .p (.bsl 1 [.m (.i .i64 0)] 2 [0, 1]), [.k (.m (.i .i64 1)), .k (.m (.i .i64 2))], none⟩,
    ⟨.l 33, .p (.bsl 1 [.m (.i .i64 0)] 2 [0, 1]), [.k (.m (.i .i64 (-1))), .k (.m (.i .i64 3))], none⟩,
    ⟨.l 34, .p (.bsl 1 [.m (.i .i64 0)] 3 [0, 1, 2]), [.k (.m (.i .i64 (-3))), .k (.m (.i .i64 (-2))), .k (.m (.i .i64 4))], none⟩,
    ⟨.l 35, .l (.bsf 1 [.m (.nl 4)] 3 [0, 1, 2]), [.l 32, .l 33, .l 34], none⟩,
    ⟨.l 36, .p (.build [.m (.i .i64 0), .m (.nl 4)] [(0, 1), (1, 1)]), [.k (.m (.i .i64 4)), .l 35], none⟩,
    ⟨.v 3, .l (.alp 3 [.m (.i .i64 0), .m (.nl 4)]), [], none⟩,
    ⟨.no, .l (.st 2), [.v 3, .l 36], none⟩])
  (.seq
  (.reg [⟨.l 38, .r (.ld true 2), [.v 3], none⟩,
    ⟨.l 39, .p (.bsl 1 [.m (.i .i64 0)] 1 [0]), [.k (.m (.i .i64 (-2)))], none⟩,
    ⟨.l 40, .l (.cal 18), [.l 38, .l 39], none⟩,
    ⟨.l 37, .p .mv, [.l 40], none⟩,
    ⟨.l 41, .p (.ext 0), [.l 37], none⟩,
    ⟨.l 42, .p (.ext 1), [.l 37], none⟩,
    ⟨.v 4, .l (.alp 4 [.m (.i .i64 0), .m (.nl 4)]), [], none⟩,
    ⟨.no, .l (.st 2), [.v 4, .l 41], none⟩,
    ⟨.v 5, .p .mv, [.l 42], none⟩])
  (.seq
  (.reg [⟨.l 44, .r (.ld true 2), [.v 3], none⟩,
    ⟨.l 45, .p (.bsl 1 [.m (.i .i64 0)] 1 [0]), [.k (.m (.i .i64 (-2)))], none⟩,
    ⟨.l 46, .l (.cal 20), [.l 44, .l 45], none⟩,
    ⟨.l 43, .p .mv, [.l 46], none⟩,
    ⟨.l 47, .p (.ext 0), [.l 43], none⟩,
    ⟨.l 48, .p (.ext 1), [.l 43], none⟩,
    ⟨.l 49, .p (.ext 2), [.l 43], none⟩,
    ⟨.v 6, .p .mv, [.l 47], none⟩,
    ⟨.v 7, .p .mv, [.l 48], none⟩,
    ⟨.v 8, .p .mv, [.l 49], none⟩])
  (.seq
  (.reg [⟨.l 51, .r (.ld true 2), [.v 3], none⟩,
    ⟨.l 52, .p (.bsl 1 [.m (.i .i64 0)] 2 [0, 1]), [.k (.m (.i .i64 2)), .k (.m (.i .i64 3))], none⟩,
    ⟨.l 53, .l (.cal 20), [.l 51, .l 52], none⟩,
    ⟨.l 50, .p .mv, [.l 53], none⟩,
    ⟨.l 54, .p (.ext 0), [.l 50], none⟩,
    ⟨.l 55, .p (.ext 1), [.l 50], none⟩,
    ⟨.l 56, .p (.ext 2), [.l 50], none⟩,
    ⟨.v 9, .p .mv, [.l 54], none⟩,
    ⟨.v 10, .p .mv, [.l 55], none⟩,
    ⟨.v 11, .p .mv, [.l 56], none⟩])
  (.seq
  (.reg [⟨.l 58, .p (.bsl 1 [.m (.i .i64 0)] 1 [0]), [.k (.m (.i .i64 1))], none⟩,
    ⟨.l 59, .p (.bsl 1 [.m (.i .i64 0)] 1 [0]), [.k (.m (.i .i64 (-1)))], none⟩,
    ⟨.l 60, .l (.bsf 1 [.m (.nl 4)] 2 [0, 1]), [.l 58, .l 59], none⟩,
    ⟨.l 61, .p (.build [.m (.i .i64 0), .m (.nl 4)] [(0, 1), (1, 1)]), [.k (.m (.i .i64 1)), .l 60], none⟩,
    ⟨.l 62, .l (.cal 20), [.l 61, .k (.m (.nl 4))], none⟩,
    ⟨.l 57, .p .mv, [.l 62], none⟩,
    ⟨.l 63, .p (.ext 0), [.l 57], none⟩,
    ⟨.l 64, .p (.ext 1), [.l 57], none⟩,
    ⟨.l 65, .p (.ext 2), [.l 57], none⟩,
    ⟨.l 12, .p .mv, [.l 63], none⟩,
    ⟨.v 13, .p .mv, [.l 64], none⟩,
    ⟨.v 14, .p .mv, [.l 65], none⟩])
  (.seq
  (.reg [⟨.l 66, .p (.bsl 1 [.m (.i .i64 0)] 2 [0, 1]), [.k (.m (.i .i64 1)), .k (.m (.i .i64 (-3)))], none⟩,
    ⟨.l 67, .p (.bsl 1 [.m (.i .i64 0)] 0 []), [], none⟩,
    ⟨.l 68, .l (.bsf 1 [.m (.nl 4)] 2 [0, 1]), [.l 66, .l 67], none⟩,
    ⟨.l 69, .p (.build [.m (.i .i64 0), .m (.nl 4)] [(0, 1), (1, 1)]), [.k (.m (.i .i64 3)), .l 68], none⟩,
    ⟨.v 15, .l (.alp 15 [.m (.i .i64 0), .m (.nl 4)]), [], none⟩,
    ⟨.no, .l (.st 2), [.v 15, .l 69], none⟩])
  (.seq
  (.reg [⟨.l 71, .r (.ld true 2), [.v 15], none⟩,
    ⟨.l 72, .l (.cal 23), [.l 71], none⟩,
    ⟨.l 70, .p .mv, [.l 72], none⟩,
    ⟨.l 73, .p (.ext 0), [.l 70], none⟩,
    ⟨.l 74, .p (.ext 1), [.l 70], none⟩,
    ⟨.v 16, .p .mv, [.l 73], none⟩,
    ⟨.v 17, .p .mv, [.l 74], none⟩])
  (.seq
  (.reg [⟨.l 76, .p .mv, [.v 16], none⟩,
    ⟨.l 77, .l (.cal 25), [.l 76], none⟩,
    ⟨.l 75, .p .mv, [.l 77], none⟩,
    ⟨.l 78, .p (.ext 0), [.l 75], none⟩,
    ⟨.l 79, .p (.ext 1), [.l 75], none⟩,
    ⟨.v 18, .l (.alp 18 [.m (.i .i64 0), .m (.nl 4)]), [], none⟩,
    ⟨.no, .l (.st 2), [.v 18, .l 78], none⟩,
    ⟨.v 19, .p .mv, [.l 79], none⟩])
  (.seq
  (.reg [⟨.l 81, .r (.ld true 2), [.v 3], none⟩,
    ⟨.l 82, .p (.bsl 1 [.m (.b false)] 4 [0, 1, 2, 3]), [.k (.m (.b true)), .k (.m (.b false)), .k (.m (.b true)), .k (.m (.b false))], none⟩,
    ⟨.l 83, .l (.cal 11), [.l 81, .l 82], none⟩,
    ⟨.l 80, .p .mv, [.l 83], none⟩,
    ⟨.l 84, .p (.ext 0), [.l 80], none⟩,
    ⟨.l 85, .p (.ext 1), [.l 80], none⟩,
    ⟨.v 20, .p .mv, [.l 84], none⟩,
    ⟨.v 21, .p .mv, [.l 85], none⟩])
  (.seq
  (.seq
  (.reg [⟨.l 86, .p .mv, [.v 2], none⟩,
    ⟨.l 87, .p (.bin .neq), [.l 86, .k (.m (.i .i64 0))], none⟩,
    ⟨.l 88, .p .mv, [.l 87], none⟩,
    ⟨.l 89, .p .mv, [.v 5], some (.l 88, false)⟩,
    ⟨.l 90, .p (.bin .neq), [.l 89, .k (.m (.i .i64 0))], some (.l 88, false)⟩,
    ⟨.l 91, .p .pick, [.l 88, .k (.m (.b true)), .l 90], none⟩,
    ⟨.l 92, .p .mv, [.l 91], none⟩,
    ⟨.l 93, .p .mv, [.v 8], some (.l 92, false)⟩,
    ⟨.l 94, .p (.bin .neq), [.l 93, .k (.m (.i .i64 0))], some (.l 92, false)⟩,
    ⟨.l 95, .p .pick, [.l 92, .k (.m (.b true)), .l 94], none⟩,
    ⟨.l 96, .p .mv, [.l 95], none⟩,
    ⟨.l 97, .p .mv, [.v 11], some (.l 96, false)⟩,
    ⟨.l 98, .p (.bin .neq), [.l 97, .k (.m (.i .i64 0))], some (.l 96, false)⟩,
    ⟨.l 99, .p .pick, [.l 96, .k (.m (.b true)), .l 98], none⟩,
    ⟨.l 100, .p .mv, [.l 99], none⟩,
    ⟨.l 101, .p .mv, [.v 14], some (.l 100, false)⟩,
    ⟨.l 102, .p (.bin .neq), [.l 101, .k (.m (.i .i64 0))], some (.l 100, false)⟩,
    ⟨.l 103, .p .pick, [.l 100, .k (.m (.b true)), .l 102], none⟩,
    ⟨.l 104, .p .mv, [.l 103], none⟩,
    ⟨.l 105, .p .mv, [.v 17], some (.l 104, false)⟩,
    ⟨.l 106, .p (.bin .neq), [.l 105, .k (.m (.i .i64 0))], some (.l 104, false)⟩,
    ⟨.l 107, .p .pick, [.l 104, .k (.m (.b true)), .l 106], none⟩,
    ⟨.l 108, .p .mv, [.l 107], none⟩,
    ⟨.l 109, .p .mv, [.v 19], some (.l 108, false)⟩,
    ⟨.l 110, .p (.bin .neq), [.l 109, .k (.m (.i .i64 0))], some (.l 108, false)⟩,
    ⟨.l 111, .p .pick, [.l 108, .k (.m (.b true)), .l 110], none⟩,
    ⟨.l 112, .p .mv, [.l 111], none⟩,
    ⟨.l 113, .p .mv, [.v 21], some (.l 112, false)⟩,
    ⟨.l 114, .p (.bin .neq), [.l 113, .k (.m (.i .i64 0))], some (.l 112, false)⟩,
    ⟨.v 115, .p .pick, [.l 112, .k (.m (.b true)), .l 114], none⟩])
  (.ite (.v 115)
    (.seq
    (.reg [⟨.v 0, .p .mv, [.k (.m (.b false))], none⟩])
    .ret)
    .skip))
  (.seq
  (.reg [⟨.l 116, .r (.ld true 2), [.v 1], none⟩,
    ⟨.l 117, .p (.bsl 1 [.m (.i .i64 0)] 1 [0]), [.k (.m (.i .i64 (-1)))], none⟩,
    ⟨.l 118, .p (.bsl 1 [.m (.i .i64 0)] 2 [0, 1]), [.k (.m (.i .i64 1)), .k (.m (.i .i64 2))], none⟩,
    ⟨.l 119, .l (.bsf 1 [.m (.nl 4)] 2 [0, 1]), [.l 117, .l 118], none⟩,
    ⟨.l 120, .p (.build [.m (.i .i64 0), .m (.nl 4)] [(0, 1), (1, 1)]), [.k (.m (.i .i64 2)), .l 119], none⟩,
    ⟨.l 121, .l (.cal 17), [.l 116, .l 120], none⟩,
    ⟨.l 122, .p .mv, [.l 121], none⟩,
    ⟨.l 123, .r (.ld true 2), [.v 4], some (.l 122, true)⟩,
    ⟨.l 124, .p (.bsl 1 [.m (.i .i64 0)] 1 [0]), [.k (.m (.i .i64 1))], some (.l 122, true)⟩,
    ⟨.l 125, .p (.bsl 1 [.m (.i .i64 0)] 2 [0, 1]), [.k (.m (.i .i64 (-1))), .k (.m (.i .i64 3))], some (.l 122, true)⟩,
    ⟨.l 126, .l (.bsf 1 [.m (.nl 4)] 2 [0, 1]), [.l 124, .l 125], some (.l 122, true)⟩,
    ⟨.l 127, .p (.build [.m (.i .i64 0), .m (.nl 4)] [(0, 1), (1, 1)]), [.k (.m (.i .i64 4)), .l 126], some (.l 122, true)⟩,
    ⟨.l 128, .l (.cal 17), [.l 123, .l 127], some (.l 122, true)⟩,
    ⟨.l 129, .p .pick, [.l 122, .l 128, .k (.m (.b false))], none⟩,
    ⟨.l 130, .p .mv, [.l 129], none⟩,
    ⟨.l 131, .p .mv, [.v 7], some (.l 130, true)⟩,
    ⟨.l 132, .p .pick, [.l 130, .l 131, .k (.m (.b false))], none⟩,
    ⟨.l 133, .p .mv, [.l 132], none⟩,
    ⟨.l 134, .p .mv, [.v 6], some (.l 133, true)⟩,
    ⟨.l 135, .p (.bsl 1 [.m (.i .i64 0)] 2 [0, 1]), [.k (.m (.i .i64 1)), .k (.m (.i .i64 3))], some (.l 133, true)⟩,
    ⟨.l 136, .l (.cal 22), [.l 134, .l 135], some (.l 133, true)⟩,
    ⟨.l 137, .p .pick, [.l 133, .l 136, .k (.m (.b false))], none⟩,
    ⟨.l 138, .p .mv, [.l 137], none⟩,
    ⟨.l 139, .p .mv, [.v 10], some (.l 138, true)⟩,
    ⟨.l 140, .p .pick, [.l 138, .l 139, .k (.m (.b false))], none⟩,
    ⟨.l 141, .p .mv, [.l 140], none⟩,
    ⟨.l 142, .p .mv, [.v 9], some (.l 141, true)⟩,
    ⟨.l 143, .p (.bsl 1 [.m (.i .i64 0)] 1 [0]), [.k (.m (.i .i64 4))], some (.l 141, true)⟩,
    ⟨.l 144, .l (.cal 22), [.l 142, .l 143], some (.l 141, true)⟩,
    ⟨.l 145, .p .pick, [.l 141, .l 144, .k (.m (.b false))], none⟩,
    ⟨.l 146, .p .mv, [.l 145], none⟩,
    ⟨.l 147, .p .mv, [.v 13], some (.l 146, true)⟩,
    ⟨.l 148, .p (.un .not), [.l 147], some (.l 146, true)⟩,
    ⟨.l 149, .p .pick, [.l 146, .l 148, .k (.m (.b false))], none⟩,
    ⟨.l 150, .p .mv, [.l 149], none⟩,
    ⟨.l 151, .p .mv, [.v 16], some (.l 150, true)⟩,
    ⟨.l 152, .p (.bin .eql), [.l 151, .k (.m (.s [112, 32, 99, 110, 102, 32, 51, 32, 50, 10, 49, 32, 45, 51, 32, 48, 10, 48, 10]))], some (.l 150, true)⟩,
    ⟨.l 153, .p .pick, [.l 150, .l 152, .k (.m (.b false))], none⟩,
    ⟨.l 154, .p .mv, [.l 153], none⟩,
    ⟨.l 155, .r (.ld true 2), [.v 15], some (.l 154, true)⟩,
    ⟨.l 156, .r (.ld true 2), [.v 18], some (.l 154, true)⟩,
    ⟨.l 157, .l (.cal 17), [.l 155, .l 156], some (.l 154, true)⟩,
    ⟨.l 158, .p .pick, [.l 154, .l 157, .k (.m (.b false))], none⟩,
    ⟨.l 159, .p .mv, [.l 158], none⟩,
    ⟨.l 160, .p .mv, [.v 20], some (.l 159, true)⟩,
    ⟨.l 161, .p .pick, [.l 159, .l 160, .k (.m (.b false))], none⟩,
    ⟨.l 162, .p .mv, [.l 161], none⟩,
    ⟨.l 163, .r (.ld true 2), [.v 3], some (.l 162, true)⟩,
    ⟨.l 164, .l (.cal 13), [.l 163], some (.l 162, true)⟩,
    ⟨.l 165, .p .pick, [.l 162, .l 164, .k (.m (.b false))], none⟩,
    ⟨.v 0, .p .mv, [.l 165], none⟩])
  .ret)))))))))))))⟩

/- cellular/formula.Eval -/
def c11_B0 : C :=
  (.seq
  (.reg [⟨.v 22, .p (.bin .lss), [.v 21, .v 20], none⟩])
  (.seq
  (.ite (.v 22)
    .skip
    (.ex 0))
  (.seq
  (.blk 1
  (.seq
  (.reg [⟨.l 23, .p (.ixa 1), [.v 19, .v 21], none⟩,
    ⟨.l 24, .r (.ld false 1), [.l 23], none⟩,
    ⟨.v 7, .p .mv, [.l 24], none⟩])
  (.seq
  (.reg [⟨.l 25, .p .mv, [.v 7], none⟩,
    ⟨.l 26, .p (.mkf 29), [.v 3], none⟩,
    ⟨.l 27, .l (.cal 28), [.l 25, .l 26], none⟩,
    ⟨.v 28, .p (.un .not), [.l 27], none⟩])
  (.ite (.v 28)
    (.seq
    (.reg [⟨.v 4, .p .mv, [.k (.m (.b false))], none⟩,
      ⟨.v 5, .p .mv, [.k (.m (.i .i64 0))], none⟩])
    .ret)
    .skip))))
  (.reg [⟨.l 29, .p (.bin .add), [.v 21, .k (.m (.i .i64 1))], none⟩,
    ⟨.v 21, .p .mv, [.l 29], none⟩]))))
def c11_L0 : C := .loop [0, 1, 2, 4, 5, 7, 17, 22, 28] c11_B0
def c11 : F := ⟨2, [.t 4, .t 5],
  (.seq
  (.reg [⟨.v 2, .l (.bxp 2 2), [.v 0], none⟩,
    ⟨.v 3, .l (.bxs 25 1 1), [.v 1], none⟩,
    ⟨.v 4, .p .mv, [.k (.m (.b false))], none⟩,
    ⟨.v 5, .p .mv, [.k (.m (.i .i64 0))], none⟩])
  (.seq
  (.seq
  (.reg [⟨.l 8, .r (.ld true 2), [.v 2], none⟩,
    ⟨.l 9, .l (.cal 13), [.l 8], none⟩,
    ⟨.l 10, .p (.un .not), [.l 9], none⟩,
    ⟨.l 11, .p .mv, [.l 10], none⟩,
    ⟨.l 12, .r (.ld false 1), [.v 3], some (.l 11, false)⟩,
    ⟨.l 13, .p (.len false), [.l 12], some (.l 11, false)⟩,
    ⟨.l 14, .p (.fad 0), [.v 2], some (.l 11, false)⟩,
    ⟨.l 15, .r (.ld false 1), [.l 14], some (.l 11, false)⟩,
    ⟨.l 16, .p (.bin .neq), [.l 13, .l 15], some (.l 11, false)⟩,
    ⟨.v 17, .p .pick, [.l 11, .k (.m (.b true)), .l 16], none⟩])
  (.ite (.v 17)
    (.seq
    (.reg [⟨.v 4, .p .mv, [.k (.m (.b false))], none⟩,
      ⟨.v 5, .p .mv, [.k (.m (.i .i64 2))], none⟩])
    .ret)
    .skip))
  (.seq
  (.seq
  (.reg [⟨.l 18, .p (.fad 1), [.v 2], none⟩,
    ⟨.v 19, .r (.ld false 1), [.l 18], none⟩,
    ⟨.v 20, .p (.len false), [.v 19], none⟩,
    ⟨.v 21, .p .mv, [.k (.m (.i .i64 0))], none⟩])
  (.blk 0
  c11_L0))
  (.seq
  (.reg [⟨.v 4, .p .mv, [.k (.m (.b true))], none⟩,
    ⟨.v 5, .p .mv, [.k (.m (.i .i64 0))], none⟩])
  .ret))))⟩

/- cellular/formula.Right -/
def c13_B0 : C :=
  (.seq
  (.reg [⟨.v 23, .p (.bin .lss), [.v 22, .v 21], none⟩])
  (.seq
  (.ite (.v 23)
    .skip
    (.ex 0))
  (.seq
  (.blk 1
  (.seq
  (.reg [⟨.l 24, .p (.ixa 1), [.v 20, .v 22], none⟩,
    ⟨.l 25, .r (.ld false 1), [.l 24], none⟩,
    ⟨.v 4, .p .mv, [.l 25], none⟩])
  (.seq
  (.reg [⟨.l 26, .p (.fad 0), [.v 1], none⟩,
    ⟨.l 27, .r (.ld false 1), [.l 26], none⟩,
    ⟨.l 28, .p .mv, [.v 4], none⟩,
    ⟨.l 29, .l (.cal 30), [.l 27, .l 28], none⟩,
    ⟨.v 30, .p (.un .not), [.l 29], none⟩])
  (.ite (.v 30)
    (.seq
    (.reg [⟨.v 2, .p .mv, [.k (.m (.b false))], none⟩])
    .ret)
    .skip))))
  (.reg [⟨.l 31, .p (.bin .add), [.v 22, .k (.m (.i .i64 1))], none⟩,
    ⟨.v 22, .p .mv, [.l 31], none⟩]))))
def c13_L0 : C := .loop [0, 2, 4, 18, 23, 30] c13_B0
def c13 : F := ⟨1, [.t 2],
  (.seq
  (.reg [⟨.v 1, .l (.bxp 1 2), [.v 0], none⟩,
    ⟨.v 2, .p .mv, [.k (.m (.b false))], none⟩])
  (.seq
  (.seq
  (.reg [⟨.l 5, .p (.fad 0), [.v 1], none⟩,
    ⟨.l 6, .r (.ld false 1), [.l 5], none⟩,
    ⟨.l 7, .p (.bin .lss), [.l 6, .k (.m (.i .i64 0))], none⟩,
    ⟨.l 8, .p .mv, [.l 7], none⟩,
    ⟨.l 9, .p (.fad 0), [.v 1], some (.l 8, false)⟩,
    ⟨.l 10, .r (.ld false 1), [.l 9], some (.l 8, false)⟩,
    ⟨.l 11, .p (.bin .gtr), [.l 10, .k (.m (.i .i64 65536))], some (.l 8, false)⟩,
    ⟨.l 12, .p .pick, [.l 8, .k (.m (.b true)), .l 11], none⟩,
    ⟨.l 13, .p .mv, [.l 12], none⟩,
    ⟨.l 14, .p (.fad 1), [.v 1], some (.l 13, false)⟩,
    ⟨.l 15, .r (.ld false 1), [.l 14], some (.l 13, false)⟩,
    ⟨.l 16, .p (.len false), [.l 15], some (.l 13, false)⟩,
    ⟨.l 17, .p (.bin .gtr), [.l 16, .k (.m (.i .i64 262144))], some (.l 13, false)⟩,
    ⟨.v 18, .p .pick, [.l 13, .k (.m (.b true)), .l 17], none⟩])
  (.ite (.v 18)
    (.seq
    (.reg [⟨.v 2, .p .mv, [.k (.m (.b false))], none⟩])
    .ret)
    .skip))
  (.seq
  (.seq
  (.reg [⟨.l 19, .p (.fad 1), [.v 1], none⟩,
    ⟨.v 20, .r (.ld false 1), [.l 19], none⟩,
    ⟨.v 21, .p (.len false), [.v 20], none⟩,
    ⟨.v 22, .p .mv, [.k (.m (.i .i64 0))], none⟩])
  (.blk 0
  c13_L0))
  (.seq
  (.reg [⟨.v 2, .p .mv, [.k (.m (.b true))], none⟩])
  .ret))))⟩

/- cellular/cellularref40.Right -/
def c14_B0 : C :=
  (.seq
  (.seq
  (.reg [⟨.l 26, .p .mv, [.v 4], none⟩,
    ⟨.l 27, .p (.fad 1), [.v 1], none⟩,
    ⟨.l 28, .r (.ld false 1), [.l 27], none⟩,
    ⟨.l 29, .p .mv, [.v 3], none⟩,
    ⟨.l 30, .p (.ixa 1), [.l 28, .l 29], none⟩,
    ⟨.l 31, .r (.ld false 1), [.l 30], none⟩,
    ⟨.l 32, .p (.len false), [.l 31], none⟩,
    ⟨.v 33, .p (.bin .lss), [.l 26, .l 32], none⟩])
  (.ite (.v 33)
    .skip
    (.ex 2)))
  (.seq
  (.blk 3
  (.seq
  (.reg [⟨.l 36, .p (.fad 1), [.v 1], none⟩,
    ⟨.l 37, .r (.ld false 1), [.l 36], none⟩,
    ⟨.l 38, .p .mv, [.v 3], none⟩,
    ⟨.l 39, .p (.ixa 1), [.l 37, .l 38], none⟩,
    ⟨.l 40, .r (.ld false 1), [.l 39], none⟩,
    ⟨.l 41, .p .mv, [.v 4], none⟩,
    ⟨.l 42, .p (.ixa 1), [.l 40, .l 41], none⟩,
    ⟨.l 43, .r (.ld false 1), [.l 42], none⟩,
    ⟨.l 44, .p (.fad 0), [.v 1], none⟩,
    ⟨.l 45, .r (.ld false 1), [.l 44], none⟩,
    ⟨.l 46, .l (.cal 31), [.l 43, .l 45], none⟩,
    ⟨.v 47, .p (.un .not), [.l 46], none⟩])
  (.ite (.v 47)
    (.seq
    (.reg [⟨.v 2, .p .mv, [.k (.m (.b false))], none⟩])
    .ret)
    .skip)))
  (.reg [⟨.l 34, .p .mv, [.v 4], none⟩,
    ⟨.l 35, .p (.bin .add), [.l 34, .k (.m (.i .i64 1))], none⟩,
    ⟨.v 4, .p .mv, [.l 35], none⟩])))
def c14_L0 : C := .loop [23, 33, 47] c14_B0
def c14_B1 : C :=
  (.seq
  (.seq
  (.reg [⟨.l 19, .p .mv, [.v 3], none⟩,
    ⟨.l 20, .p (.fad 1), [.v 1], none⟩,
    ⟨.l 21, .r (.ld false 1), [.l 20], none⟩,
    ⟨.l 22, .p (.len false), [.l 21], none⟩,
    ⟨.v 23, .p (.bin .lss), [.l 19, .l 22], none⟩])
  (.ite (.v 23)
    .skip
    (.ex 0)))
  (.seq
  (.blk 1
  (.seq
  (.reg [⟨.v 4, .p .mv, [.k (.m (.i .i64 0))], none⟩])
  (.blk 2
  c14_L0)))
  (.reg [⟨.l 24, .p .mv, [.v 3], none⟩,
    ⟨.l 25, .p (.bin .add), [.l 24, .k (.m (.i .i64 1))], none⟩,
    ⟨.v 3, .p .mv, [.l 25], none⟩])))
def c14_L1 : C := .loop [0, 2, 4, 18, 33] c14_B1
def c14 : F := ⟨1, [.t 2],
  (.seq
  (.reg [⟨.v 1, .l (.bxp 1 2), [.v 0], none⟩,
    ⟨.v 2, .p .mv, [.k (.m (.b false))], none⟩])
  (.seq
  (.seq
  (.reg [⟨.l 5, .p (.fad 0), [.v 1], none⟩,
    ⟨.l 6, .r (.ld false 1), [.l 5], none⟩,
    ⟨.l 7, .p (.bin .lss), [.l 6, .k (.m (.i .i64 0))], none⟩,
    ⟨.l 8, .p .mv, [.l 7], none⟩,
    ⟨.l 9, .p (.fad 0), [.v 1], some (.l 8, false)⟩,
    ⟨.l 10, .r (.ld false 1), [.l 9], some (.l 8, false)⟩,
    ⟨.l 11, .p (.bin .gtr), [.l 10, .k (.m (.i .i64 65536))], some (.l 8, false)⟩,
    ⟨.l 12, .p .pick, [.l 8, .k (.m (.b true)), .l 11], none⟩,
    ⟨.l 13, .p .mv, [.l 12], none⟩,
    ⟨.l 14, .p (.fad 1), [.v 1], some (.l 13, false)⟩,
    ⟨.l 15, .r (.ld false 1), [.l 14], some (.l 13, false)⟩,
    ⟨.l 16, .p (.len false), [.l 15], some (.l 13, false)⟩,
    ⟨.l 17, .p (.bin .gtr), [.l 16, .k (.m (.i .i64 262144))], some (.l 13, false)⟩,
    ⟨.v 18, .p .pick, [.l 13, .k (.m (.b true)), .l 17], none⟩])
  (.ite (.v 18)
    (.seq
    (.reg [⟨.v 2, .p .mv, [.k (.m (.b false))], none⟩])
    .ret)
    .skip))
  (.seq
  (.seq
  (.reg [⟨.v 3, .p .mv, [.k (.m (.i .i64 0))], none⟩])
  (.blk 0
  c14_L1))
  (.seq
  (.reg [⟨.v 2, .p .mv, [.k (.m (.b true))], none⟩])
  .ret))))⟩

/- cellular/formula.Sort -/
def c15_B0 : C :=
  (.seq
  (.seq
  (.reg [⟨.l 30, .p .mv, [.v 8], none⟩,
    ⟨.l 31, .p .mv, [.v 7], none⟩,
    ⟨.l 32, .p (.len false), [.l 31], none⟩,
    ⟨.v 33, .p (.bin .lss), [.l 30, .l 32], none⟩])
  (.ite (.v 33)
    .skip
    (.ex 2)))
  (.seq
  (.blk 3
  (.seq
  (.reg [⟨.l 36, .p .mv, [.v 7], none⟩,
    ⟨.l 37, .p .mv, [.v 8], none⟩,
    ⟨.l 38, .p (.ixa 1), [.l 36, .l 37], none⟩,
    ⟨.l 39, .r (.ld false 1), [.l 38], none⟩,
    ⟨.l 40, .p .mv, [.v 7], none⟩,
    ⟨.l 41, .p .mv, [.v 8], none⟩,
    ⟨.l 42, .p (.bin .sub), [.l 41, .k (.m (.i .i64 1))], none⟩,
    ⟨.l 43, .p (.ixa 1), [.l 40, .l 42], none⟩,
    ⟨.l 44, .r (.ld false 1), [.l 43], none⟩,
    ⟨.l 45, .p (.un .neg), [.l 44], none⟩,
    ⟨.v 46, .p (.bin .eql), [.l 39, .l 45], none⟩])
  (.ite (.v 46)
    (.ex 1)
    .skip)))
  (.reg [⟨.l 34, .p .mv, [.v 8], none⟩,
    ⟨.l 35, .p (.bin .add), [.l 34, .k (.m (.i .i64 1))], none⟩,
    ⟨.v 8, .p .mv, [.l 35], none⟩])))
def c15_L0 : C := .loop [6, 21, 33, 46] c15_B0
def c15_B1 : C :=
  (.seq
  (.reg [⟨.v 21, .p (.bin .lss), [.v 20, .v 19], none⟩])
  (.seq
  (.ite (.v 21)
    .skip
    (.ex 0))
  (.seq
  (.blk 1
  (.seq
  (.reg [⟨.l 22, .p (.ixa 1), [.v 18, .v 20], none⟩,
    ⟨.l 23, .r (.ld false 1), [.l 22], none⟩,
    ⟨.v 6, .p .mv, [.l 23], none⟩])
  (.seq
  (.reg [⟨.l 24, .p .mv, [.v 6], none⟩,
    ⟨.l 25, .l (.cal 32), [.l 24], none⟩,
    ⟨.v 7, .p .mv, [.l 25], none⟩])
  (.seq
  (.reg [⟨.l 26, .p .mv, [.v 7], none⟩,
    ⟨.l 27, .l (.cal 33), [.l 26, .k (.m (.fn 34 []))], none⟩])
  (.seq
  (.reg [⟨.l 28, .p .mv, [.v 7], none⟩,
    ⟨.l 29, .l (.cal 35), [.l 28], none⟩,
    ⟨.v 7, .p .mv, [.l 29], none⟩])
  (.seq
  (.seq
  (.reg [⟨.v 8, .p .mv, [.k (.m (.i .i64 1))], none⟩])
  (.blk 2
  c15_L0))
  (.reg [⟨.l 47, .p (.fad 1), [.v 4], none⟩,
    ⟨.l 48, .r (.ld false 1), [.l 47], none⟩,
    ⟨.l 49, .p .mv, [.v 7], none⟩,
    ⟨.l 50, .l (.bsf 1 [.m (.nl 4)] 1 [0]), [.l 49], none⟩,
    ⟨.l 51, .l (.app 35 1 24), [.l 48, .l 50], none⟩,
    ⟨.l 52, .p (.fad 1), [.v 4], none⟩,
    ⟨.no, .l (.st 1), [.l 52, .l 51], none⟩])))))))
  (.reg [⟨.l 53, .p (.bin .add), [.v 20, .k (.m (.i .i64 1))], none⟩,
    ⟨.v 20, .p .mv, [.l 53], none⟩]))))
def c15_L1 : C := .loop [0, 1, 3, 7, 8, 12, 33, 46] c15_B1
def c15 : F := ⟨1, [.c 2 2 true, .t 3],
  (.seq
  (.reg [⟨.v 1, .l (.bxp 1 2), [.v 0], none⟩,
    ⟨.v 2, .l (.alp 2 [.m (.i .i64 0), .m (.nl 4)]), [], none⟩,
    ⟨.v 3, .p .mv, [.k (.m (.i .i64 0))], none⟩])
  (.seq
  (.seq
  (.reg [⟨.l 10, .r (.ld true 2), [.v 1], none⟩,
    ⟨.l 11, .l (.cal 13), [.l 10], none⟩,
    ⟨.v 12, .p (.un .not), [.l 11], none⟩])
  (.ite (.v 12)
    (.seq
    (.reg [⟨.l 13, .p (.build [.m (.i .i64 0), .m (.nl 4)] []), [], none⟩,
      ⟨.no, .l (.st 2), [.v 2, .l 13], none⟩,
      ⟨.v 3, .p .mv, [.k (.m (.i .i64 2))], none⟩])
    .ret)
    .skip))
  (.seq
  (.reg [⟨.l 14, .p (.fad 0), [.v 1], none⟩,
    ⟨.l 15, .r (.ld false 1), [.l 14], none⟩,
    ⟨.l 16, .p (.build [.m (.i .i64 0), .m (.nl 4)] [(0, 1)]), [.l 15], none⟩,
    ⟨.v 4, .l (.alp 4 [.m (.i .i64 0), .m (.nl 4)]), [], none⟩,
    ⟨.no, .l (.st 2), [.v 4, .l 16], none⟩])
  (.seq
  .skip
  (.seq
  (.seq
  (.reg [⟨.l 17, .p (.fad 1), [.v 1], none⟩,
    ⟨.v 18, .r (.ld false 1), [.l 17], none⟩,
    ⟨.v 19, .p (.len false), [.v 18], none⟩,
    ⟨.v 20, .p .mv, [.k (.m (.i .i64 0))], none⟩])
  (.blk 0
  c15_L1))
  (.seq
  (.reg [⟨.v 9, .l (.als 55 1 1 [.m (.nl 2)]), [], none⟩,
    ⟨.no, .l (.st 1), [.v 9, .k (.m (.fn 36 []))], none⟩])
  (.seq
  (.reg [⟨.l 54, .p (.fad 1), [.v 4], none⟩,
    ⟨.l 55, .r (.ld false 1), [.l 54], none⟩,
    ⟨.l 56, .r (.ld false 1), [.v 9], none⟩,
    ⟨.l 57, .l (.cal 38), [.l 55, .l 56], none⟩])
  (.seq
  (.reg [⟨.l 58, .p (.fad 1), [.v 4], none⟩,
    ⟨.l 59, .r (.ld false 1), [.l 58], none⟩,
    ⟨.l 60, .p (.mkf 40), [.v 9], none⟩,
    ⟨.l 61, .l (.cal 39), [.l 59, .l 60], none⟩,
    ⟨.l 62, .p (.fad 1), [.v 4], none⟩,
    ⟨.no, .l (.st 1), [.l 62, .l 61], none⟩])
  (.seq
  (.reg [⟨.l 63, .r (.ld true 2), [.v 4], none⟩,
    ⟨.no, .l (.st 2), [.v 2, .l 63], none⟩,
    ⟨.v 3, .p .mv, [.k (.m (.i .i64 0))], none⟩])
  .ret)))))))))⟩

/- cellular/cellularref40.Sort -/
def c16_B0 : C :=
  (.seq
  (.seq
  (.reg [⟨.l 31, .p .mv, [.v 8], none⟩,
    ⟨.l 32, .p (.fad 1), [.v 4], none⟩,
    ⟨.l 33, .r (.ld false 1), [.l 32], none⟩,
    ⟨.l 34, .p (.len false), [.l 33], none⟩,
    ⟨.l 35, .p (.bin .lss), [.l 31, .l 34], none⟩,
    ⟨.l 36, .p .mv, [.l 35], none⟩,
    ⟨.l 37, .p (.fad 1), [.v 4], some (.l 36, true)⟩,
    ⟨.l 38, .r (.ld false 1), [.l 37], some (.l 36, true)⟩,
    ⟨.l 39, .p .mv, [.v 8], some (.l 36, true)⟩,
    ⟨.l 40, .p (.ixa 1), [.l 38, .l 39], some (.l 36, true)⟩,
    ⟨.l 41, .r (.ld false 1), [.l 40], some (.l 36, true)⟩,
    ⟨.l 42, .p .mv, [.v 6], some (.l 36, true)⟩,
    ⟨.l 43, .l (.cal 43), [.l 41, .l 42], some (.l 36, true)⟩,
    ⟨.l 44, .p (.bin .lss), [.l 43, .k (.m (.i .i64 0))], some (.l 36, true)⟩,
    ⟨.v 45, .p .pick, [.l 36, .l 44, .k (.m (.b false))], none⟩])
  (.ite (.v 45)
    .skip
    (.ex 2)))
  (.blk 3
  (.seq
  (.reg [⟨.l 46, .p .mv, [.v 7], none⟩,
    ⟨.l 47, .p (.fad 1), [.v 4], none⟩,
    ⟨.l 48, .r (.ld false 1), [.l 47], none⟩,
    ⟨.l 49, .p .mv, [.v 8], none⟩,
    ⟨.l 50, .p (.ixa 1), [.l 48, .l 49], none⟩,
    ⟨.l 51, .r (.ld false 1), [.l 50], none⟩,
    ⟨.l 52, .l (.bsf 1 [.m (.nl 4)] 1 [0]), [.l 51], none⟩,
    ⟨.l 53, .l (.app 35 1 24), [.l 46, .l 52], none⟩,
    ⟨.v 7, .p .mv, [.l 53], none⟩])
  (.reg [⟨.l 54, .p .mv, [.v 8], none⟩,
    ⟨.l 55, .p (.bin .add), [.l 54, .k (.m (.i .i64 1))], none⟩,
    ⟨.v 8, .p .mv, [.l 55], none⟩]))))
def c16_L0 : C := .loop [20, 30, 45] c16_B0
def c16_B1 : C :=
  (.seq
  (.seq
  (.reg [⟨.l 16, .p .mv, [.v 5], none⟩,
    ⟨.l 17, .p (.fad 1), [.v 1], none⟩,
    ⟨.l 18, .r (.ld false 1), [.l 17], none⟩,
    ⟨.l 19, .p (.len false), [.l 18], none⟩,
    ⟨.v 20, .p (.bin .lss), [.l 16, .l 19], none⟩])
  (.ite (.v 20)
    .skip
    (.ex 0)))
  (.seq
  (.blk 1
  (.seq
  (.reg [⟨.l 23, .p (.fad 1), [.v 1], none⟩,
    ⟨.l 24, .r (.ld false 1), [.l 23], none⟩,
    ⟨.l 25, .p .mv, [.v 5], none⟩,
    ⟨.l 26, .p (.ixa 1), [.l 24, .l 25], none⟩,
    ⟨.l 27, .r (.ld false 1), [.l 26], none⟩,
    ⟨.l 28, .l (.cal 41), [.l 27], none⟩,
    ⟨.v 6, .p .mv, [.l 28], none⟩])
  (.seq
  (.seq
  (.reg [⟨.l 29, .p .mv, [.v 6], none⟩,
    ⟨.v 30, .l (.cal 42), [.l 29], none⟩])
  (.ite (.v 30)
    (.ex 1)
    .skip))
  (.seq
  (.reg [⟨.v 7, .p .mv, [.k (.m (.nl 4))], none⟩])
  (.seq
  (.reg [⟨.v 8, .p .mv, [.k (.m (.i .i64 0))], none⟩])
  (.seq
  (.blk 2
  c16_L0)
  (.seq
  (.seq
  (.reg [⟨.l 56, .p .mv, [.v 8], none⟩,
    ⟨.l 57, .p (.fad 1), [.v 4], none⟩,
    ⟨.l 58, .r (.ld false 1), [.l 57], none⟩,
    ⟨.l 59, .p (.len false), [.l 58], none⟩,
    ⟨.l 60, .p (.bin .eql), [.l 56, .l 59], none⟩,
    ⟨.l 61, .p .mv, [.l 60], none⟩,
    ⟨.l 62, .p (.fad 1), [.v 4], some (.l 61, false)⟩,
    ⟨.l 63, .r (.ld false 1), [.l 62], some (.l 61, false)⟩,
    ⟨.l 64, .p .mv, [.v 8], some (.l 61, false)⟩,
    ⟨.l 65, .p (.ixa 1), [.l 63, .l 64], some (.l 61, false)⟩,
    ⟨.l 66, .r (.ld false 1), [.l 65], some (.l 61, false)⟩,
    ⟨.l 67, .p .mv, [.v 6], some (.l 61, false)⟩,
    ⟨.l 68, .l (.cal 43), [.l 66, .l 67], some (.l 61, false)⟩,
    ⟨.l 69, .p (.bin .neq), [.l 68, .k (.m (.i .i64 0))], some (.l 61, false)⟩,
    ⟨.v 70, .p .pick, [.l 61, .k (.m (.b true)), .l 69], none⟩])
  (.ite (.v 70)
    (.reg [⟨.l 71, .p .mv, [.v 7], none⟩,
      ⟨.l 72, .p .mv, [.v 6], none⟩,
      ⟨.l 73, .l (.bsf 1 [.m (.nl 4)] 1 [0]), [.l 72], none⟩,
      ⟨.l 74, .l (.app 35 1 24), [.l 71, .l 73], none⟩,
      ⟨.v 7, .p .mv, [.l 74], none⟩])
    .skip))
  (.seq
  (.reg [⟨.l 75, .p .mv, [.v 7], none⟩,
    ⟨.l 76, .p (.fad 1), [.v 4], none⟩,
    ⟨.l 77, .r (.ld false 1), [.l 76], none⟩,
    ⟨.l 78, .p .mv, [.v 8], none⟩,
    ⟨.l 79, .p (.slc 1 true false false), [.l 77, .l 78], none⟩,
    ⟨.l 80, .l (.app 35 1 24), [.l 75, .l 79], none⟩,
    ⟨.v 7, .p .mv, [.l 80], none⟩])
  (.reg [⟨.l 81, .p .mv, [.v 7], none⟩,
    ⟨.l 82, .p (.fad 1), [.v 4], none⟩,
    ⟨.no, .l (.st 1), [.l 82, .l 81], none⟩])))))))))
  (.reg [⟨.l 21, .p .mv, [.v 5], none⟩,
    ⟨.l 22, .p (.bin .add), [.l 21, .k (.m (.i .i64 1))], none⟩,
    ⟨.v 5, .p .mv, [.l 22], none⟩])))
def c16_L1 : C := .loop [0, 3, 6, 7, 8, 11, 20, 30, 45, 70] c16_B1
def c16 : F := ⟨1, [.c 2 2 true, .t 3],
  (.seq
  (.reg [⟨.v 1, .l (.bxp 1 2), [.v 0], none⟩,
    ⟨.v 2, .l (.alp 2 [.m (.i .i64 0), .m (.nl 4)]), [], none⟩,
    ⟨.v 3, .p .mv, [.k (.m (.i .i64 0))], none⟩])
  (.seq
  (.seq
  (.reg [⟨.l 9, .r (.ld true 2), [.v 1], none⟩,
    ⟨.l 10, .l (.cal 14), [.l 9], none⟩,
    ⟨.v 11, .p (.un .not), [.l 10], none⟩])
  (.ite (.v 11)
    (.seq
    (.reg [⟨.l 12, .p (.build [.m (.i .i64 0), .m (.nl 4)] []), [], none⟩,
      ⟨.no, .l (.st 2), [.v 2, .l 12], none⟩,
      ⟨.v 3, .p .mv, [.k (.m (.i .i64 2))], none⟩])
    .ret)
    .skip))
  (.seq
  (.reg [⟨.l 13, .p (.fad 0), [.v 1], none⟩,
    ⟨.l 14, .r (.ld false 1), [.l 13], none⟩,
    ⟨.l 15, .p (.build [.m (.i .i64 0), .m (.nl 4)] [(0, 1)]), [.l 14], none⟩,
    ⟨.v 4, .l (.alp 4 [.m (.i .i64 0), .m (.nl 4)]), [], none⟩,
    ⟨.no, .l (.st 2), [.v 4, .l 15], none⟩])
  (.seq
  (.seq
  (.reg [⟨.v 5, .p .mv, [.k (.m (.i .i64 0))], none⟩])
  (.blk 0
  c16_L1))
  (.seq
  (.reg [⟨.l 83, .r (.ld true 2), [.v 4], none⟩,
    ⟨.no, .l (.st 2), [.v 2, .l 83], none⟩,
    ⟨.v 3, .p .mv, [.k (.m (.i .i64 0))], none⟩])
  .ret)))))⟩

/- cellular/cellularref40.Same -/
def c17_B0 : C :=
  (.seq
  (.seq
  (.reg [⟨.l 20, .p .mv, [.v 5], none⟩,
    ⟨.l 21, .p (.fad 1), [.v 2], none⟩,
    ⟨.l 22, .r (.ld false 1), [.l 21], none⟩,
    ⟨.l 23, .p (.len false), [.l 22], none⟩,
    ⟨.v 24, .p (.bin .lss), [.l 20, .l 23], none⟩])
  (.ite (.v 24)
    .skip
    (.ex 0)))
  (.seq
  (.blk 1
  (.seq
  (.reg [⟨.l 27, .p (.fad 1), [.v 2], none⟩,
    ⟨.l 28, .r (.ld false 1), [.l 27], none⟩,
    ⟨.l 29, .p .mv, [.v 5], none⟩,
    ⟨.l 30, .p (.ixa 1), [.l 28, .l 29], none⟩,
    ⟨.l 31, .r (.ld false 1), [.l 30], none⟩,
    ⟨.l 32, .p (.fad 1), [.v 3], none⟩,
    ⟨.l 33, .r (.ld false 1), [.l 32], none⟩,
    ⟨.l 34, .p .mv, [.v 5], none⟩,
    ⟨.l 35, .p (.ixa 1), [.l 33, .l 34], none⟩,
    ⟨.l 36, .r (.ld false 1), [.l 35], none⟩,
    ⟨.l 37, .l (.cal 22), [.l 31, .l 36], none⟩,
    ⟨.v 38, .p (.un .not), [.l 37], none⟩])
  (.ite (.v 38)
    (.seq
    (.reg [⟨.v 4, .p .mv, [.k (.m (.b false))], none⟩])
    .ret)
    .skip)))
  (.reg [⟨.l 25, .p .mv, [.v 5], none⟩,
    ⟨.l 26, .p (.bin .add), [.l 25, .k (.m (.i .i64 1))], none⟩,
    ⟨.v 5, .p .mv, [.l 26], none⟩])))
def c17_L0 : C := .loop [0, 1, 4, 19, 24, 38] c17_B0
def c17 : F := ⟨2, [.t 4],
  (.seq
  (.reg [⟨.v 2, .l (.bxp 2 2), [.v 0], none⟩,
    ⟨.v 3, .l (.bxp 3 2), [.v 1], none⟩,
    ⟨.v 4, .p .mv, [.k (.m (.b false))], none⟩])
  (.seq
  (.seq
  (.reg [⟨.l 6, .p (.fad 0), [.v 2], none⟩,
    ⟨.l 7, .r (.ld false 1), [.l 6], none⟩,
    ⟨.l 8, .p (.fad 0), [.v 3], none⟩,
    ⟨.l 9, .r (.ld false 1), [.l 8], none⟩,
    ⟨.l 10, .p (.bin .neq), [.l 7, .l 9], none⟩,
    ⟨.l 11, .p .mv, [.l 10], none⟩,
    ⟨.l 12, .p (.fad 1), [.v 2], some (.l 11, false)⟩,
    ⟨.l 13, .r (.ld false 1), [.l 12], some (.l 11, false)⟩,
    ⟨.l 14, .p (.len false), [.l 13], some (.l 11, false)⟩,
    ⟨.l 15, .p (.fad 1), [.v 3], some (.l 11, false)⟩,
    ⟨.l 16, .r (.ld false 1), [.l 15], some (.l 11, false)⟩,
    ⟨.l 17, .p (.len false), [.l 16], some (.l 11, false)⟩,
    ⟨.l 18, .p (.bin .neq), [.l 14, .l 17], some (.l 11, false)⟩,
    ⟨.v 19, .p .pick, [.l 11, .k (.m (.b true)), .l 18], none⟩])
  (.ite (.v 19)
    (.seq
    (.reg [⟨.v 4, .p .mv, [.k (.m (.b false))], none⟩])
    .ret)
    .skip))
  (.seq
  (.seq
  (.reg [⟨.v 5, .p .mv, [.k (.m (.i .i64 0))], none⟩])
  (.blk 0
  c17_L0))
  (.seq
  (.reg [⟨.v 4, .p .mv, [.k (.m (.b true))], none⟩])
  .ret))))⟩

/- cellular/formula.Assume -/
def c18_B0 : C :=
  (.seq
  (.reg [⟨.v 49, .p (.bin .lss), [.v 48, .v 47], none⟩])
  (.seq
  (.ite (.v 49)
    .skip
    (.ex 2))
  (.seq
  (.blk 3
  (.seq
  (.reg [⟨.l 50, .p (.ixa 1), [.v 46, .v 48], none⟩,
    ⟨.l 51, .r (.ld false 1), [.l 50], none⟩,
    ⟨.v 13, .p .mv, [.l 51], none⟩])
  (.seq
  (.reg [⟨.l 52, .r (.ld false 1), [.v 6], none⟩,
    ⟨.l 53, .p .mv, [.v 13], none⟩,
    ⟨.l 54, .p (.un .neg), [.l 53], none⟩,
    ⟨.l 55, .r (.lkp ⟨false, [1]⟩ [.m (.b false)] false false), [.l 52, .l 54], none⟩,
    ⟨.v 56, .p (.un .not), [.l 55], none⟩])
  (.ite (.v 56)
    (.reg [⟨.l 57, .p .mv, [.v 11], none⟩,
      ⟨.l 58, .p .mv, [.v 13], none⟩,
      ⟨.l 59, .p (.bsl 1 [.m (.i .i64 0)] 1 [0]), [.l 58], none⟩,
      ⟨.l 60, .l (.app 3 1 8), [.l 57, .l 59], none⟩,
      ⟨.v 11, .p .mv, [.l 60], none⟩])
    .skip))))
  (.reg [⟨.l 61, .p (.bin .add), [.v 48, .k (.m (.i .i64 1))], none⟩,
    ⟨.v 48, .p .mv, [.l 61], none⟩]))))
def c18_L0 : C := .loop [10, 13, 40, 45, 49, 56] c18_B0
def c18_B1 : C :=
  (.seq
  (.reg [⟨.v 40, .p (.bin .lss), [.v 39, .v 38], none⟩])
  (.seq
  (.ite (.v 40)
    .skip
    (.ex 0))
  (.seq
  (.blk 1
  (.seq
  (.reg [⟨.l 41, .p (.ixa 1), [.v 37, .v 39], none⟩,
    ⟨.l 42, .r (.ld false 1), [.l 41], none⟩,
    ⟨.v 10, .p .mv, [.l 42], none⟩])
  (.seq
  (.seq
  (.reg [⟨.l 43, .p .mv, [.v 10], none⟩,
    ⟨.l 44, .p (.mkf 45), [.v 6], none⟩,
    ⟨.v 45, .l (.cal 28), [.l 43, .l 44], none⟩])
  (.ite (.v 45)
    (.ex 1)
    .skip))
  (.seq
  (.reg [⟨.v 11, .p .mv, [.k (.m (.nl 4))], none⟩])
  (.seq
  (.seq
  (.reg [⟨.v 46, .p .mv, [.v 10], none⟩,
    ⟨.v 47, .p (.len false), [.v 46], none⟩,
    ⟨.v 48, .p .mv, [.k (.m (.i .i64 0))], none⟩])
  (.blk 2
  c18_L0))
  (.reg [⟨.l 62, .p (.fad 1), [.v 8], none⟩,
    ⟨.l 63, .r (.ld false 1), [.l 62], none⟩,
    ⟨.l 64, .p .mv, [.v 11], none⟩,
    ⟨.l 65, .l (.bsf 1 [.m (.nl 4)] 1 [0]), [.l 64], none⟩,
    ⟨.l 66, .l (.app 35 1 24), [.l 63, .l 65], none⟩,
    ⟨.l 67, .p (.fad 1), [.v 8], none⟩,
    ⟨.no, .l (.st 1), [.l 67, .l 66], none⟩]))))))
  (.reg [⟨.l 68, .p (.bin .add), [.v 39, .k (.m (.i .i64 1))], none⟩,
    ⟨.v 39, .p .mv, [.l 68], none⟩]))))
def c18_L1 : C := .loop [0, 1, 2, 5, 7, 10, 11, 23, 31, 40, 45, 46, 47, 48, 49] c18_B1
def c18 : F := ⟨2, [.c 4 2 true, .t 5],
  (.seq
  (.reg [⟨.v 2, .l (.bxp 2 2), [.v 0], none⟩,
    ⟨.v 4, .l (.alp 4 [.m (.i .i64 0), .m (.nl 4)]), [], none⟩,
    ⟨.v 5, .p .mv, [.k (.m (.i .i64 0))], none⟩])
  (.seq
  (.seq
  (.reg [⟨.l 14, .r (.ld true 2), [.v 2], none⟩,
    ⟨.l 15, .l (.cal 13), [.l 14], none⟩,
    ⟨.l 16, .p (.un .not), [.l 15], none⟩,
    ⟨.l 17, .p .mv, [.l 16], none⟩,
    ⟨.l 18, .p (.fad 0), [.v 2], some (.l 17, false)⟩,
    ⟨.l 19, .r (.ld false 1), [.l 18], some (.l 17, false)⟩,
    ⟨.l 20, .p .mv, [.v 1], some (.l 17, false)⟩,
    ⟨.l 21, .l (.cal 30), [.l 19, .l 20], some (.l 17, false)⟩,
    ⟨.l 22, .p (.un .not), [.l 21], some (.l 17, false)⟩,
    ⟨.v 23, .p .pick, [.l 17, .k (.m (.b true)), .l 22], none⟩])
  (.ite (.v 23)
    (.seq
    (.reg [⟨.l 24, .p (.build [.m (.i .i64 0), .m (.nl 4)] []), [], none⟩,
      ⟨.no, .l (.st 2), [.v 4, .l 24], none⟩,
      ⟨.v 5, .p .mv, [.k (.m (.i .i64 2))], none⟩])
    .ret)
    .skip))
  (.seq
  (.reg [⟨.l 26, .p .mv, [.v 1], none⟩,
    ⟨.l 27, .l (.cal 44), [.l 26], none⟩,
    ⟨.l 25, .p .mv, [.l 27], none⟩,
    ⟨.l 28, .p (.ext 0), [.l 25], none⟩,
    ⟨.l 29, .p (.ext 1), [.l 25], none⟩,
    ⟨.v 6, .l (.als 59 1 1 [.m (.nl 1)]), [], none⟩,
    ⟨.no, .l (.st 1), [.v 6, .l 28], none⟩,
    ⟨.v 7, .p .mv, [.l 29], none⟩])
  (.seq
  (.seq
  (.reg [⟨.l 30, .p .mv, [.v 7], none⟩,
    ⟨.v 31, .p (.un .not), [.l 30], none⟩])
  (.ite (.v 31)
    (.seq
    (.reg [⟨.l 32, .p (.build [.m (.i .i64 0), .m (.nl 4)] []), [], none⟩,
      ⟨.no, .l (.st 2), [.v 4, .l 32], none⟩,
      ⟨.v 5, .p .mv, [.k (.m (.i .i64 2))], none⟩])
    .ret)
    .skip))
  (.seq
  (.reg [⟨.l 33, .p (.fad 0), [.v 2], none⟩,
    ⟨.l 34, .r (.ld false 1), [.l 33], none⟩,
    ⟨.l 35, .p (.build [.m (.i .i64 0), .m (.nl 4)] [(0, 1)]), [.l 34], none⟩,
    ⟨.v 8, .l (.alp 8 [.m (.i .i64 0), .m (.nl 4)]), [], none⟩,
    ⟨.no, .l (.st 2), [.v 8, .l 35], none⟩])
  (.seq
  (.seq
  (.reg [⟨.l 36, .p (.fad 1), [.v 2], none⟩,
    ⟨.v 37, .r (.ld false 1), [.l 36], none⟩,
    ⟨.v 38, .p (.len false), [.v 37], none⟩,
    ⟨.v 39, .p .mv, [.k (.m (.i .i64 0))], none⟩])
  (.blk 0
  c18_L1))
  (.seq
  (.reg [⟨.l 69, .r (.ld true 2), [.v 8], none⟩,
    ⟨.no, .l (.st 2), [.v 4, .l 69], none⟩,
    ⟨.v 5, .p .mv, [.k (.m (.i .i64 0))], none⟩])
  .ret)))))))⟩

/- cellular/cellularref40.Assume -/
def c19_B0 : C :=
  (.seq
  (.seq
  (.reg [⟨.l 27, .p .mv, [.v 7], none⟩,
    ⟨.l 28, .p (.fad 1), [.v 2], none⟩,
    ⟨.l 29, .r (.ld false 1), [.l 28], none⟩,
    ⟨.l 30, .p (.len false), [.l 29], none⟩,
    ⟨.v 31, .p (.bin .lss), [.l 27, .l 30], none⟩])
  (.ite (.v 31)
    .skip
    (.ex 0)))
  (.seq
  (.blk 1
  (.seq
  (.reg [⟨.l 35, .p (.fad 1), [.v 2], none⟩,
    ⟨.l 36, .r (.ld false 1), [.l 35], none⟩,
    ⟨.l 37, .p .mv, [.v 7], none⟩,
    ⟨.l 38, .p (.ixa 1), [.l 36, .l 37], none⟩,
    ⟨.l 39, .r (.ld false 1), [.l 38], none⟩,
    ⟨.l 40, .p .mv, [.v 1], none⟩,
    ⟨.l 41, .l (.cal 47), [.l 39, .l 40], none⟩,
    ⟨.l 34, .p .mv, [.l 41], none⟩,
    ⟨.l 42, .p (.ext 0), [.l 34], none⟩,
    ⟨.l 43, .p (.ext 1), [.l 34], none⟩,
    ⟨.v 8, .p .mv, [.l 42], none⟩,
    ⟨.v 9, .p .mv, [.l 43], none⟩])
  (.seq
  (.reg [⟨.l 44, .p .mv, [.v 9], none⟩,
    ⟨.v 45, .p (.un .not), [.l 44], none⟩])
  (.ite (.v 45)
    (.reg [⟨.l 46, .p (.fad 1), [.v 6], none⟩,
      ⟨.l 47, .r (.ld false 1), [.l 46], none⟩,
      ⟨.l 48, .p .mv, [.v 8], none⟩,
      ⟨.l 49, .l (.bsf 1 [.m (.nl 4)] 1 [0]), [.l 48], none⟩,
      ⟨.l 50, .l (.app 35 1 24), [.l 47, .l 49], none⟩,
      ⟨.l 51, .p (.fad 1), [.v 6], none⟩,
      ⟨.no, .l (.st 1), [.l 51, .l 50], none⟩])
    .skip))))
  (.reg [⟨.l 32, .p .mv, [.v 7], none⟩,
    ⟨.l 33, .p (.bin .add), [.l 32, .k (.m (.i .i64 1))], none⟩,
    ⟨.v 7, .p .mv, [.l 33], none⟩])))
def c19_L0 : C := .loop [0, 5, 8, 9, 22, 31, 45] c19_B0
def c19 : F := ⟨2, [.c 4 2 true, .t 5],
  (.seq
  (.reg [⟨.v 2, .l (.bxp 2 2), [.v 0], none⟩,
    ⟨.v 4, .l (.alp 4 [.m (.i .i64 0), .m (.nl 4)]), [], none⟩,
    ⟨.v 5, .p .mv, [.k (.m (.i .i64 0))], none⟩])
  (.seq
  (.seq
  (.reg [⟨.l 10, .r (.ld true 2), [.v 2], none⟩,
    ⟨.l 11, .l (.cal 14), [.l 10], none⟩,
    ⟨.l 12, .p (.un .not), [.l 11], none⟩,
    ⟨.l 13, .p .mv, [.l 12], none⟩,
    ⟨.l 14, .r (.ld true 2), [.v 2], some (.l 13, false)⟩,
    ⟨.l 15, .p .mv, [.v 1], some (.l 13, false)⟩,
    ⟨.l 16, .l (.cal 46), [.l 14, .l 15], some (.l 13, false)⟩,
    ⟨.l 17, .p (.un .not), [.l 16], some (.l 13, false)⟩,
    ⟨.l 18, .p .pick, [.l 13, .k (.m (.b true)), .l 17], none⟩,
    ⟨.l 19, .p .mv, [.l 18], none⟩,
    ⟨.l 20, .p .mv, [.v 1], some (.l 19, false)⟩,
    ⟨.l 21, .l (.cal 42), [.l 20], some (.l 19, false)⟩,
    ⟨.v 22, .p .pick, [.l 19, .k (.m (.b true)), .l 21], none⟩])
  (.ite (.v 22)
    (.seq
    (.reg [⟨.l 23, .p (.build [.m (.i .i64 0), .m (.nl 4)] []), [], none⟩,
      ⟨.no, .l (.st 2), [.v 4, .l 23], none⟩,
      ⟨.v 5, .p .mv, [.k (.m (.i .i64 2))], none⟩])
    .ret)
    .skip))
  (.seq
  (.reg [⟨.l 24, .p (.fad 0), [.v 2], none⟩,
    ⟨.l 25, .r (.ld false 1), [.l 24], none⟩,
    ⟨.l 26, .p (.build [.m (.i .i64 0), .m (.nl 4)] [(0, 1)]), [.l 25], none⟩,
    ⟨.v 6, .l (.alp 6 [.m (.i .i64 0), .m (.nl 4)]), [], none⟩,
    ⟨.no, .l (.st 2), [.v 6, .l 26], none⟩])
  (.seq
  (.seq
  (.reg [⟨.v 7, .p .mv, [.k (.m (.i .i64 0))], none⟩])
  (.blk 0
  c19_L0))
  (.seq
  (.reg [⟨.l 52, .r (.ld true 2), [.v 6], none⟩,
    ⟨.no, .l (.st 2), [.v 4, .l 52], none⟩,
    ⟨.v 5, .p .mv, [.k (.m (.i .i64 0))], none⟩])
  .ret)))))⟩

/- cellular/formula.Units -/
def c20_B0 : C :=
  (.seq
  (.reg [⟨.v 37, .p (.bin .lss), [.v 36, .v 35], none⟩])
  (.seq
  (.ite (.v 37)
    .skip
    (.ex 0))
  (.seq
  (.blk 1
  (.seq
  (.reg [⟨.l 38, .p (.ixa 1), [.v 34, .v 36], none⟩,
    ⟨.l 39, .r (.ld false 1), [.l 38], none⟩,
    ⟨.v 9, .p .mv, [.l 39], none⟩])
  (.seq
  (.reg [⟨.l 40, .p .mv, [.v 9], none⟩,
    ⟨.l 41, .l (.cal 48), [.v 7, .l 40], none⟩,
    ⟨.v 42, .p (.un .not), [.l 41], none⟩])
  (.ite (.v 42)
    (.seq
    (.reg [⟨.v 4, .p .mv, [.k (.m (.nl 4))], none⟩,
      ⟨.v 5, .p .mv, [.k (.m (.b false))], none⟩,
      ⟨.v 6, .p .mv, [.k (.m (.i .i64 0))], none⟩])
    .ret)
    .skip))))
  (.reg [⟨.l 43, .p (.bin .add), [.v 36, .k (.m (.i .i64 1))], none⟩,
    ⟨.v 36, .p .mv, [.l 43], none⟩]))))
def c20_L0 : C := .loop [0, 1, 4, 5, 6, 9, 30, 37, 42] c20_B0
def c20_B1 : C :=
  (.seq
  (.reg [⟨.v 70, .p (.bin .lss), [.v 69, .v 68], none⟩])
  (.seq
  (.ite (.v 70)
    .skip
    (.ex 4))
  (.seq
  (.blk 5
  (.seq
  (.reg [⟨.l 71, .p (.ixa 1), [.v 67, .v 69], none⟩,
    ⟨.l 72, .r (.ld false 1), [.l 71], none⟩,
    ⟨.v 14, .p .mv, [.l 72], none⟩])
  (.reg [⟨.l 73, .p (.fad 1), [.v 7], none⟩,
    ⟨.l 74, .r .ld1, [.l 73], none⟩,
    ⟨.l 75, .p .mv, [.v 14], none⟩,
    ⟨.l 76, .p (.fad 1), [.v 7], none⟩,
    ⟨.l 77, .r (.ld false 1), [.l 76], none⟩,
    ⟨.l 78, .p .mv, [.v 14], none⟩,
    ⟨.l 79, .r (.lkp ⟨false, [1]⟩ [.m (.nl 4)] false false), [.l 77, .l 78], none⟩,
    ⟨.l 80, .p .mv, [.v 11], none⟩,
    ⟨.l 81, .p (.bsl 1 [.m (.i .i64 0)] 1 [0]), [.l 80], none⟩,
    ⟨.l 82, .l (.app 3 1 8), [.l 79, .l 81], none⟩,
    ⟨.no, .l (.mup ⟨false, [1]⟩), [.l 74, .l 75, .l 82], none⟩])))
  (.reg [⟨.l 83, .p (.bin .add), [.v 69, .k (.m (.i .i64 1))], none⟩,
    ⟨.v 69, .p .mv, [.l 83], none⟩]))))
def c20_L1 : C := .loop [12, 14, 51, 70] c20_B1
def c20_B2 : C :=
  (.seq
  (.reg [⟨.v 51, .p (.bin .lss), [.v 50, .v 49], none⟩])
  (.seq
  (.ite (.v 51)
    .skip
    (.ex 2))
  (.seq
  (.blk 3
  (.seq
  (.reg [⟨.l 52, .p .mv, [.v 50], none⟩,
    ⟨.l 53, .p (.ixa 1), [.v 48, .v 50], none⟩,
    ⟨.l 54, .r (.ld false 1), [.l 53], none⟩,
    ⟨.v 11, .p .mv, [.l 52], none⟩,
    ⟨.v 12, .p .mv, [.l 54], none⟩])
  (.seq
  (.reg [⟨.l 55, .p .mv, [.v 12], none⟩,
    ⟨.l 56, .l (.cal 32), [.l 55], none⟩,
    ⟨.v 12, .p .mv, [.l 56], none⟩])
  (.seq
  (.reg [⟨.l 57, .p .mv, [.v 12], none⟩,
    ⟨.l 58, .l (.cal 49), [.l 57], none⟩])
  (.seq
  (.reg [⟨.l 59, .p .mv, [.v 12], none⟩,
    ⟨.l 60, .l (.cal 35), [.l 59], none⟩,
    ⟨.v 12, .p .mv, [.l 60], none⟩])
  (.seq
  (.reg [⟨.l 61, .p (.fad 0), [.v 7], none⟩,
    ⟨.l 62, .r (.ld false 1), [.l 61], none⟩,
    ⟨.l 63, .p .mv, [.v 12], none⟩,
    ⟨.l 64, .l (.bsf 1 [.m (.nl 4)] 1 [0]), [.l 63], none⟩,
    ⟨.l 65, .l (.app 35 1 24), [.l 62, .l 64], none⟩,
    ⟨.l 66, .p (.fad 0), [.v 7], none⟩,
    ⟨.no, .l (.st 1), [.l 66, .l 65], none⟩])
  (.seq
  (.reg [⟨.v 67, .p .mv, [.v 12], none⟩,
    ⟨.v 68, .p (.len false), [.v 67], none⟩,
    ⟨.v 69, .p .mv, [.k (.m (.i .i64 0))], none⟩])
  (.blk 4
  c20_L1))))))))
  (.reg [⟨.l 84, .p (.bin .add), [.v 50, .k (.m (.i .i64 1))], none⟩,
    ⟨.v 50, .p .mv, [.l 84], none⟩]))))
def c20_L2 : C := .loop [2, 11, 34, 35, 36, 37, 67, 68, 69, 70] c20_B2
def c20_B3 : C :=
  (.seq
  (.reg [⟨.v 89, .p (.bin .lss), [.v 88, .v 87], none⟩])
  (.seq
  (.ite (.v 89)
    .skip
    (.ex 6))
  (.seq
  (.blk 7
  (.seq
  (.reg [⟨.l 90, .p (.ixa 1), [.v 86, .v 88], none⟩,
    ⟨.l 91, .r (.ld false 1), [.l 90], none⟩,
    ⟨.v 16, .p .mv, [.l 91], none⟩])
  (.seq
  (.reg [⟨.l 92, .p .mv, [.v 16], none⟩,
    ⟨.l 93, .l (.cal 50), [.v 7, .l 92], none⟩,
    ⟨.v 94, .p (.un .not), [.l 93], none⟩])
  (.ite (.v 94)
    (.seq
    (.reg [⟨.v 4, .p .mv, [.k (.m (.nl 4))], none⟩,
      ⟨.v 5, .p .mv, [.k (.m (.b false))], none⟩,
      ⟨.v 6, .p .mv, [.k (.m (.i .i64 0))], none⟩])
    .ret)
    .skip))))
  (.reg [⟨.l 95, .p (.bin .add), [.v 88, .k (.m (.i .i64 1))], none⟩,
    ⟨.v 88, .p .mv, [.l 95], none⟩]))))
def c20_L3 : C := .loop [16, 48, 49, 50, 51, 89, 94] c20_B3
def c20_B4 : C :=
  (.seq
  (.reg [⟨.v 114, .p (.bin .lss), [.v 113, .v 112], none⟩])
  (.seq
  (.ite (.v 114)
    .skip
    (.ex 10))
  (.seq
  (.blk 11
  (.seq
  (.reg [⟨.l 115, .p (.ixa 1), [.v 111, .v 113], none⟩,
    ⟨.l 116, .r (.ld false 1), [.l 115], none⟩,
    ⟨.v 19, .p .mv, [.l 116], none⟩])
  (.seq
  (.reg [⟨.l 117, .p (.fad 0), [.v 7], none⟩,
    ⟨.l 118, .r (.ld false 1), [.l 117], none⟩,
    ⟨.l 119, .p .mv, [.v 19], none⟩,
    ⟨.l 120, .p (.ixa 1), [.l 118, .l 119], none⟩,
    ⟨.l 121, .r (.ld false 1), [.l 120], none⟩,
    ⟨.l 122, .l (.cal 50), [.v 7, .l 121], none⟩,
    ⟨.v 123, .p (.un .not), [.l 122], none⟩])
  (.ite (.v 123)
    (.seq
    (.reg [⟨.v 4, .p .mv, [.k (.m (.nl 4))], none⟩,
      ⟨.v 5, .p .mv, [.k (.m (.b false))], none⟩,
      ⟨.v 6, .p .mv, [.k (.m (.i .i64 0))], none⟩])
    .ret)
    .skip))))
  (.reg [⟨.l 124, .p (.bin .add), [.v 113, .k (.m (.i .i64 1))], none⟩,
    ⟨.v 113, .p .mv, [.l 124], none⟩]))))
def c20_L4 : C := .loop [19, 100, 114, 123] c20_B4
def c20_B5 : C :=
  (.seq
  (.seq
  (.reg [⟨.l 96, .p .mv, [.v 17], none⟩,
    ⟨.l 97, .p (.fad 3), [.v 7], none⟩,
    ⟨.l 98, .r (.ld false 1), [.l 97], none⟩,
    ⟨.l 99, .p (.len false), [.l 98], none⟩,
    ⟨.v 100, .p (.bin .lss), [.l 96, .l 99], none⟩])
  (.ite (.v 100)
    .skip
    (.ex 8)))
  (.seq
  (.blk 9
  (.seq
  (.reg [⟨.l 103, .p (.fad 1), [.v 7], none⟩,
    ⟨.l 104, .r (.ld false 1), [.l 103], none⟩,
    ⟨.l 105, .p (.fad 3), [.v 7], none⟩,
    ⟨.l 106, .r (.ld false 1), [.l 105], none⟩,
    ⟨.l 107, .p .mv, [.v 17], none⟩,
    ⟨.l 108, .p (.ixa 1), [.l 106, .l 107], none⟩,
    ⟨.l 109, .r (.ld false 1), [.l 108], none⟩,
    ⟨.l 110, .p (.un .neg), [.l 109], none⟩,
    ⟨.v 111, .r (.lkp ⟨false, [1]⟩ [.m (.nl 4)] false false), [.l 104, .l 110], none⟩,
    ⟨.v 112, .p (.len false), [.v 111], none⟩,
    ⟨.v 113, .p .mv, [.k (.m (.i .i64 0))], none⟩])
  (.blk 10
  c20_L4)))
  (.reg [⟨.l 101, .p .mv, [.v 17], none⟩,
    ⟨.l 102, .p (.bin .add), [.l 101, .k (.m (.i .i64 1))], none⟩,
    ⟨.v 17, .p .mv, [.l 102], none⟩])))
def c20_L5 : C := .loop [86, 87, 88, 89, 111, 112, 113, 114] c20_B5
def c20 : F := ⟨2, [.t 4, .t 5, .t 6],
  (.seq
  (.reg [⟨.v 2, .l (.bxp 2 2), [.v 0], none⟩,
    ⟨.v 4, .p .mv, [.k (.m (.nl 4))], none⟩,
    ⟨.v 5, .p .mv, [.k (.m (.b false))], none⟩,
    ⟨.v 6, .p .mv, [.k (.m (.i .i64 0))], none⟩])
  (.seq
  (.seq
  (.reg [⟨.l 21, .r (.ld true 2), [.v 2], none⟩,
    ⟨.l 22, .l (.cal 13), [.l 21], none⟩,
    ⟨.l 23, .p (.un .not), [.l 22], none⟩,
    ⟨.l 24, .p .mv, [.l 23], none⟩,
    ⟨.l 25, .p (.fad 0), [.v 2], some (.l 24, false)⟩,
    ⟨.l 26, .r (.ld false 1), [.l 25], some (.l 24, false)⟩,
    ⟨.l 27, .p .mv, [.v 1], some (.l 24, false)⟩,
    ⟨.l 28, .l (.cal 30), [.l 26, .l 27], some (.l 24, false)⟩,
    ⟨.l 29, .p (.un .not), [.l 28], some (.l 24, false)⟩,
    ⟨.v 30, .p .pick, [.l 24, .k (.m (.b true)), .l 29], none⟩])
  (.ite (.v 30)
    (.seq
    (.reg [⟨.v 4, .p .mv, [.k (.m (.nl 4))], none⟩,
      ⟨.v 5, .p .mv, [.k (.m (.b false))], none⟩,
      ⟨.v 6, .p .mv, [.k (.m (.i .i64 2))], none⟩])
    .ret)
    .skip))
  (.seq
  (.reg [⟨.l 31, .l .mkm, [], none⟩,
    ⟨.l 32, .l .mkm, [], none⟩,
    ⟨.l 33, .p (.build [.m (.nl 4), .m (.nl 1), .m (.nl 1), .m (.nl 4)] [(1, 1), (2, 1)]), [.l 31, .l 32], none⟩,
    ⟨.v 7, .l (.als 66 4 1 [.m (.nl 4), .m (.nl 1), .m (.nl 1), .m (.nl 4)]), [], none⟩,
    ⟨.no, .l (.st 4), [.v 7, .l 33], none⟩])
  (.seq
  (.seq
  (.reg [⟨.v 34, .p .mv, [.v 1], none⟩,
    ⟨.v 35, .p (.len false), [.v 34], none⟩,
    ⟨.v 36, .p .mv, [.k (.m (.i .i64 0))], none⟩])
  (.blk 0
  c20_L0))
  (.seq
  (.reg [⟨.l 44, .p (.fad 3), [.v 7], none⟩,
    ⟨.l 45, .r (.ld false 1), [.l 44], none⟩,
    ⟨.l 46, .p (.len false), [.l 45], none⟩,
    ⟨.v 10, .p .mv, [.l 46], none⟩])
  (.seq
  (.seq
  (.reg [⟨.l 47, .p (.fad 1), [.v 2], none⟩,
    ⟨.v 48, .r (.ld false 1), [.l 47], none⟩,
    ⟨.v 49, .p (.len false), [.v 48], none⟩,
    ⟨.v 50, .p .mv, [.k (.m (.i .i64 0))], none⟩])
  (.blk 2
  c20_L2))
  (.seq
  (.seq
  (.reg [⟨.l 85, .p (.fad 0), [.v 7], none⟩,
    ⟨.v 86, .r (.ld false 1), [.l 85], none⟩,
    ⟨.v 87, .p (.len false), [.v 86], none⟩,
    ⟨.v 88, .p .mv, [.k (.m (.i .i64 0))], none⟩])
  (.blk 6
  c20_L3))
  (.seq
  (.seq
  (.reg [⟨.v 17, .p .mv, [.k (.m (.i .i64 0))], none⟩])
  (.blk 8
  c20_L5))
  (.seq
  (.reg [⟨.l 125, .p (.fad 3), [.v 7], none⟩,
    ⟨.l 126, .r (.ld false 1), [.l 125], none⟩,
    ⟨.l 127, .p .mv, [.v 10], none⟩,
    ⟨.l 128, .p (.slc 1 true false false), [.l 126, .l 127], none⟩,
    ⟨.l 129, .l (.cal 32), [.l 128], none⟩,
    ⟨.v 20, .p .mv, [.l 129], none⟩])
  (.seq
  (.reg [⟨.l 130, .p .mv, [.v 20], none⟩,
    ⟨.l 131, .l (.cal 33), [.l 130, .k (.m (.fn 34 []))], none⟩])
  (.seq
  (.reg [⟨.l 132, .p .mv, [.v 20], none⟩,
    ⟨.v 4, .p .mv, [.l 132], none⟩,
    ⟨.v 5, .p .mv, [.k (.m (.b true))], none⟩,
    ⟨.v 6, .p .mv, [.k (.m (.i .i64 0))], none⟩])
  .ret)))))))))))⟩

/- cellular/cellularref40.Units -/
def c21_B0 : C :=
  (.seq
  (.seq
  (.reg [⟨.l 25, .p .mv, [.v 9], none⟩,
    ⟨.l 26, .p (.fad 1), [.v 2], none⟩,
    ⟨.l 27, .r (.ld false 1), [.l 26], none⟩,
    ⟨.l 28, .p (.len false), [.l 27], none⟩,
    ⟨.v 29, .p (.bin .lss), [.l 25, .l 28], none⟩])
  (.ite (.v 29)
    .skip
    (.ex 2)))
  (.seq
  (.blk 3
  (.seq
  (.reg [⟨.l 33, .p (.fad 1), [.v 2], none⟩,
    ⟨.l 34, .r (.ld false 1), [.l 33], none⟩,
    ⟨.l 35, .p .mv, [.v 9], none⟩,
    ⟨.l 36, .p (.ixa 1), [.l 34, .l 35], none⟩,
    ⟨.l 37, .r (.ld false 1), [.l 36], none⟩,
    ⟨.l 38, .p .mv, [.v 7], none⟩,
    ⟨.l 39, .l (.cal 47), [.l 37, .l 38], none⟩,
    ⟨.l 32, .p .mv, [.l 39], none⟩,
    ⟨.l 40, .p (.ext 0), [.l 32], none⟩,
    ⟨.l 41, .p (.ext 1), [.l 32], none⟩,
    ⟨.v 10, .p .mv, [.l 40], none⟩,
    ⟨.v 11, .p .mv, [.l 41], none⟩])
  (.seq
  (.reg [⟨.l 42, .p .mv, [.v 10], none⟩,
    ⟨.l 43, .l (.cal 41), [.l 42], none⟩,
    ⟨.v 10, .p .mv, [.l 43], none⟩])
  (.seq
  (.seq
  (.reg [⟨.l 44, .p .mv, [.v 11], none⟩,
    ⟨.l 45, .p (.un .not), [.l 44], none⟩,
    ⟨.l 46, .p .mv, [.l 45], none⟩,
    ⟨.l 47, .p .mv, [.v 10], some (.l 46, true)⟩,
    ⟨.l 48, .p (.len false), [.l 47], some (.l 46, true)⟩,
    ⟨.l 49, .p (.bin .eql), [.l 48, .k (.m (.i .i64 0))], some (.l 46, true)⟩,
    ⟨.v 50, .p .pick, [.l 46, .l 49, .k (.m (.b false))], none⟩])
  (.ite (.v 50)
    (.seq
    (.reg [⟨.v 4, .p .mv, [.k (.m (.nl 4))], none⟩,
      ⟨.v 5, .p .mv, [.k (.m (.b false))], none⟩,
      ⟨.v 6, .p .mv, [.k (.m (.i .i64 0))], none⟩])
    .ret)
    .skip))
  (.seq
  (.reg [⟨.l 51, .p .mv, [.v 11], none⟩,
    ⟨.l 52, .p (.un .not), [.l 51], none⟩,
    ⟨.l 53, .p .mv, [.l 52], none⟩,
    ⟨.l 54, .p .mv, [.v 10], some (.l 53, true)⟩,
    ⟨.l 55, .p (.len false), [.l 54], some (.l 53, true)⟩,
    ⟨.l 56, .p (.bin .eql), [.l 55, .k (.m (.i .i64 1))], some (.l 53, true)⟩,
    ⟨.v 57, .p .pick, [.l 53, .l 56, .k (.m (.b false))], none⟩])
  (.ite (.v 57)
    (.seq
    (.reg [⟨.l 58, .p .mv, [.v 7], none⟩,
      ⟨.l 59, .p .mv, [.v 10], none⟩,
      ⟨.l 60, .p (.ixa 1), [.l 59, .k (.m (.i .i64 0))], none⟩,
      ⟨.l 61, .r (.ld false 1), [.l 60], none⟩,
      ⟨.l 62, .p (.bsl 1 [.m (.i .i64 0)] 1 [0]), [.l 61], none⟩,
      ⟨.l 63, .l (.app 3 1 8), [.l 58, .l 62], none⟩,
      ⟨.v 7, .p .mv, [.l 63], none⟩])
    (.reg [⟨.v 8, .p .mv, [.k (.m (.b true))], none⟩]))
    .skip))))))
  (.reg [⟨.l 30, .p .mv, [.v 9], none⟩,
    ⟨.l 31, .p (.bin .add), [.l 30, .k (.m (.i .i64 1))], none⟩,
    ⟨.v 9, .p .mv, [.l 31], none⟩])))
def c21_L0 : C := .loop [10, 11, 24, 29, 50, 57] c21_B0
def c21_B1 : C :=
  (.seq
  (.seq
  (.reg [⟨.v 24, .p .mv, [.v 8], none⟩])
  (.ite (.v 24)
    .skip
    (.ex 0)))
  (.blk 1
  (.seq
  (.reg [⟨.v 8, .p .mv, [.k (.m (.b false))], none⟩])
  (.seq
  (.reg [⟨.v 9, .p .mv, [.k (.m (.i .i64 0))], none⟩])
  (.blk 2
  c21_L0)))))
def c21_L1 : C := .loop [0, 4, 5, 6, 9, 20, 29] c21_B1
def c21 : F := ⟨2, [.t 4, .t 5, .t 6],
  (.seq
  (.reg [⟨.v 2, .l (.bxp 2 2), [.v 0], none⟩,
    ⟨.v 4, .p .mv, [.k (.m (.nl 4))], none⟩,
    ⟨.v 5, .p .mv, [.k (.m (.b false))], none⟩,
    ⟨.v 6, .p .mv, [.k (.m (.i .i64 0))], none⟩])
  (.seq
  (.seq
  (.reg [⟨.l 12, .r (.ld true 2), [.v 2], none⟩,
    ⟨.l 13, .l (.cal 14), [.l 12], none⟩,
    ⟨.l 14, .p (.un .not), [.l 13], none⟩,
    ⟨.l 15, .p .mv, [.l 14], none⟩,
    ⟨.l 16, .r (.ld true 2), [.v 2], some (.l 15, false)⟩,
    ⟨.l 17, .p .mv, [.v 1], some (.l 15, false)⟩,
    ⟨.l 18, .l (.cal 46), [.l 16, .l 17], some (.l 15, false)⟩,
    ⟨.l 19, .p (.un .not), [.l 18], some (.l 15, false)⟩,
    ⟨.v 20, .p .pick, [.l 15, .k (.m (.b true)), .l 19], none⟩])
  (.ite (.v 20)
    (.seq
    (.reg [⟨.v 4, .p .mv, [.k (.m (.nl 4))], none⟩,
      ⟨.v 5, .p .mv, [.k (.m (.b false))], none⟩,
      ⟨.v 6, .p .mv, [.k (.m (.i .i64 2))], none⟩])
    .ret)
    .skip))
  (.seq
  (.reg [⟨.v 7, .p .mv, [.k (.m (.nl 4))], none⟩])
  (.seq
  (.reg [⟨.l 21, .p .mv, [.v 7], none⟩,
    ⟨.l 22, .p .mv, [.v 1], none⟩,
    ⟨.l 23, .l (.app 3 1 8), [.l 21, .l 22], none⟩,
    ⟨.v 7, .p .mv, [.l 23], none⟩])
  (.seq
  (.seq
  (.reg [⟨.v 8, .p .mv, [.k (.m (.b true))], none⟩])
  (.blk 0
  c21_L1))
  (.seq
  (.seq
  (.reg [⟨.l 64, .p .mv, [.v 7], none⟩,
    ⟨.v 65, .l (.cal 42), [.l 64], none⟩])
  (.ite (.v 65)
    (.seq
    (.reg [⟨.v 4, .p .mv, [.k (.m (.nl 4))], none⟩,
      ⟨.v 5, .p .mv, [.k (.m (.b false))], none⟩,
      ⟨.v 6, .p .mv, [.k (.m (.i .i64 0))], none⟩])
    .ret)
    .skip))
  (.seq
  (.reg [⟨.l 66, .p .mv, [.v 7], none⟩,
    ⟨.l 67, .p .mv, [.v 1], none⟩,
    ⟨.l 68, .p (.len false), [.l 67], none⟩,
    ⟨.l 69, .p (.slc 1 true false false), [.l 66, .l 68], none⟩,
    ⟨.l 70, .l (.cal 41), [.l 69], none⟩,
    ⟨.v 4, .p .mv, [.l 70], none⟩,
    ⟨.v 5, .p .mv, [.k (.m (.b true))], none⟩,
    ⟨.v 6, .p .mv, [.k (.m (.i .i64 0))], none⟩])
  .ret)))))))⟩

/- cellular/cellularref40.Equal -/
def c22_B0 : C :=
  (.seq
  (.seq
  (.reg [⟨.l 11, .p .mv, [.v 5], none⟩,
    ⟨.l 12, .p .mv, [.v 0], none⟩,
    ⟨.l 13, .p (.len false), [.l 12], none⟩,
    ⟨.v 14, .p (.bin .lss), [.l 11, .l 13], none⟩])
  (.ite (.v 14)
    .skip
    (.ex 0)))
  (.seq
  (.blk 1
  (.seq
  (.reg [⟨.l 17, .p .mv, [.v 0], none⟩,
    ⟨.l 18, .p .mv, [.v 5], none⟩,
    ⟨.l 19, .p (.ixa 1), [.l 17, .l 18], none⟩,
    ⟨.l 20, .r (.ld false 1), [.l 19], none⟩,
    ⟨.l 21, .p .mv, [.v 1], none⟩,
    ⟨.l 22, .p .mv, [.v 5], none⟩,
    ⟨.l 23, .p (.ixa 1), [.l 21, .l 22], none⟩,
    ⟨.l 24, .r (.ld false 1), [.l 23], none⟩,
    ⟨.v 25, .p (.bin .neq), [.l 20, .l 24], none⟩])
  (.ite (.v 25)
    (.seq
    (.reg [⟨.v 4, .p .mv, [.k (.m (.b false))], none⟩])
    .ret)
    .skip)))
  (.reg [⟨.l 15, .p .mv, [.v 5], none⟩,
    ⟨.l 16, .p (.bin .add), [.l 15, .k (.m (.i .i64 1))], none⟩,
    ⟨.v 5, .p .mv, [.l 16], none⟩])))
def c22_L0 : C := .loop [4, 10, 14, 25] c22_B0
def c22 : F := ⟨2, [.t 4],
  (.seq
  (.reg [⟨.v 4, .p .mv, [.k (.m (.b false))], none⟩])
  (.seq
  (.seq
  (.reg [⟨.l 6, .p .mv, [.v 0], none⟩,
    ⟨.l 7, .p (.len false), [.l 6], none⟩,
    ⟨.l 8, .p .mv, [.v 1], none⟩,
    ⟨.l 9, .p (.len false), [.l 8], none⟩,
    ⟨.v 10, .p (.bin .neq), [.l 7, .l 9], none⟩])
  (.ite (.v 10)
    (.seq
    (.reg [⟨.v 4, .p .mv, [.k (.m (.b false))], none⟩])
    .ret)
    .skip))
  (.seq
  (.seq
  (.reg [⟨.v 5, .p .mv, [.k (.m (.i .i64 0))], none⟩])
  (.blk 0
  c22_L0))
  (.seq
  (.reg [⟨.v 4, .p .mv, [.k (.m (.b true))], none⟩])
  .ret))))⟩

/- cellular/formula.Text -/
def c23_B0 : C :=
  (.seq
  (.reg [⟨.v 34, .p (.bin .lss), [.v 33, .v 32], none⟩])
  (.seq
  (.ite (.v 34)
    .skip
    (.ex 2))
  (.seq
  (.blk 3
  (.seq
  (.reg [⟨.l 35, .p (.ixa 1), [.v 31, .v 33], none⟩,
    ⟨.l 36, .r (.ld false 1), [.l 35], none⟩,
    ⟨.v 8, .p .mv, [.l 36], none⟩])
  (.reg [⟨.l 37, .p .mv, [.v 4], none⟩,
    ⟨.l 38, .p .mv, [.v 8], none⟩,
    ⟨.l 39, .l (.cal 52), [.l 37, .l 38, .k (.m (.i .i64 10))], none⟩,
    ⟨.l 40, .p (.bsl 1 [.m (.i .u8 0)] 1 [0]), [.k (.m (.i .u8 32))], none⟩,
    ⟨.l 41, .l (.app 5 1 1), [.l 39, .l 40], none⟩,
    ⟨.v 4, .p .mv, [.l 41], none⟩])))
  (.reg [⟨.l 42, .p (.bin .add), [.v 33, .k (.m (.i .i64 1))], none⟩,
    ⟨.v 33, .p .mv, [.l 42], none⟩]))))
def c23_L0 : C := .loop [6, 8, 28, 34] c23_B0
def c23_B1 : C :=
  (.seq
  (.reg [⟨.v 28, .p (.bin .lss), [.v 27, .v 26], none⟩])
  (.seq
  (.ite (.v 28)
    .skip
    (.ex 0))
  (.seq
  (.blk 1
  (.seq
  (.reg [⟨.l 29, .p (.ixa 1), [.v 25, .v 27], none⟩,
    ⟨.l 30, .r (.ld false 1), [.l 29], none⟩,
    ⟨.v 6, .p .mv, [.l 30], none⟩])
  (.seq
  (.seq
  (.reg [⟨.v 31, .p .mv, [.v 6], none⟩,
    ⟨.v 32, .p (.len false), [.v 31], none⟩,
    ⟨.v 33, .p .mv, [.k (.m (.i .i64 0))], none⟩])
  (.blk 2
  c23_L0))
  (.seq
  (.reg [⟨.l 43, .p .mv, [.v 4], none⟩,
    ⟨.l 44, .l (.app 5 1 1), [.l 43, .k (.m (.s [48, 10]))], none⟩,
    ⟨.v 4, .p .mv, [.l 44], none⟩])
  (.seq
  (.reg [⟨.l 45, .p .mv, [.v 4], none⟩,
    ⟨.l 46, .p (.len false), [.l 45], none⟩,
    ⟨.v 47, .p (.bin .gtr), [.l 46, .k (.m (.i .i64 65536))], none⟩])
  (.ite (.v 47)
    (.seq
    (.reg [⟨.v 2, .p .mv, [.k (.m (.s []))], none⟩,
      ⟨.v 3, .p .mv, [.k (.m (.i .i64 6))], none⟩])
    .ret)
    .skip))))))
  (.reg [⟨.l 48, .p (.bin .add), [.v 27, .k (.m (.i .i64 1))], none⟩,
    ⟨.v 27, .p .mv, [.l 48], none⟩]))))
def c23_L1 : C := .loop [0, 1, 2, 3, 11, 31, 32, 33, 34, 47] c23_B1
def c23 : F := ⟨1, [.t 2, .t 3],
  (.seq
  (.reg [⟨.v 1, .l (.bxp 1 2), [.v 0], none⟩,
    ⟨.v 2, .p .mv, [.k (.m (.s []))], none⟩,
    ⟨.v 3, .p .mv, [.k (.m (.i .i64 0))], none⟩])
  (.seq
  (.seq
  (.reg [⟨.l 9, .r (.ld true 2), [.v 1], none⟩,
    ⟨.l 10, .l (.cal 13), [.l 9], none⟩,
    ⟨.v 11, .p (.un .not), [.l 10], none⟩])
  (.ite (.v 11)
    (.seq
    (.reg [⟨.v 2, .p .mv, [.k (.m (.s []))], none⟩,
      ⟨.v 3, .p .mv, [.k (.m (.i .i64 2))], none⟩])
    .ret)
    .skip))
  (.seq
  (.reg [⟨.l 12, .p (.fad 0), [.v 1], none⟩,
    ⟨.l 13, .r (.ld false 1), [.l 12], none⟩,
    ⟨.l 14, .l (.cal 51), [.l 13], none⟩,
    ⟨.l 15, .p (.bin .add), [.k (.m (.s [112, 32, 99, 110, 102, 32])), .l 14], none⟩,
    ⟨.l 16, .p (.bin .add), [.l 15, .k (.m (.s [32]))], none⟩,
    ⟨.l 17, .p (.fad 1), [.v 1], none⟩,
    ⟨.l 18, .r (.ld false 1), [.l 17], none⟩,
    ⟨.l 19, .p (.len false), [.l 18], none⟩,
    ⟨.l 20, .l (.cal 51), [.l 19], none⟩,
    ⟨.l 21, .p (.bin .add), [.l 16, .l 20], none⟩,
    ⟨.l 22, .p (.bin .add), [.l 21, .k (.m (.s [10]))], none⟩,
    ⟨.l 23, .l (.s2r 5), [.l 22], none⟩,
    ⟨.v 4, .p .mv, [.l 23], none⟩])
  (.seq
  (.seq
  (.reg [⟨.l 24, .p (.fad 1), [.v 1], none⟩,
    ⟨.v 25, .r (.ld false 1), [.l 24], none⟩,
    ⟨.v 26, .p (.len false), [.v 25], none⟩,
    ⟨.v 27, .p .mv, [.k (.m (.i .i64 0))], none⟩])
  (.blk 0
  c23_L1))
  (.seq
  (.reg [⟨.l 49, .p .mv, [.v 4], none⟩,
    ⟨.l 50, .r .b2s, [.l 49], none⟩,
    ⟨.v 2, .p .mv, [.l 50], none⟩,
    ⟨.v 3, .p .mv, [.k (.m (.i .i64 0))], none⟩])
  .ret)))))⟩

/- cellular/formula.Parse -/
def c25_B0 : C :=
  (.seq
  (.reg [⟨.v 42, .p (.bin .lss), [.v 41, .v 40], none⟩])
  (.seq
  (.ite (.v 42)
    .skip
    (.ex 0))
  (.seq
  (.blk 1
  (.seq
  (.reg [⟨.l 43, .p (.ixa 1), [.v 39, .v 41], none⟩,
    ⟨.l 44, .r (.ld false 1), [.l 43], none⟩,
    ⟨.v 7, .p .mv, [.l 44], none⟩])
  (.seq
  (.reg [⟨.l 46, .p .mv, [.v 7], none⟩,
    ⟨.l 47, .l (.cal 55), [.l 46], none⟩,
    ⟨.l 45, .p .mv, [.l 47], none⟩,
    ⟨.l 48, .p (.ext 0), [.l 45], none⟩,
    ⟨.l 49, .p (.ext 1), [.l 45], none⟩,
    ⟨.v 8, .p .mv, [.l 48], none⟩,
    ⟨.v 9, .p .mv, [.l 49], none⟩])
  (.seq
  (.seq
  (.reg [⟨.l 50, .p .mv, [.v 9], none⟩,
    ⟨.v 51, .p (.un .not), [.l 50], none⟩])
  (.ite (.v 51)
    (.seq
    (.reg [⟨.l 52, .p (.build [.m (.i .i64 0), .m (.nl 4)] []), [], none⟩,
      ⟨.no, .l (.st 2), [.v 2, .l 52], none⟩,
      ⟨.v 3, .p .mv, [.k (.m (.i .i64 15))], none⟩])
    .ret)
    .skip))
  (.reg [⟨.l 53, .p .mv, [.v 5], none⟩,
    ⟨.l 54, .p .mv, [.v 8], none⟩,
    ⟨.l 55, .p (.bsl 1 [.m (.i .i64 0)] 1 [0]), [.l 54], none⟩,
    ⟨.l 56, .l (.app 3 1 8), [.l 53, .l 55], none⟩,
    ⟨.v 5, .p .mv, [.l 56], none⟩])))))
  (.reg [⟨.l 57, .p (.bin .add), [.v 41, .k (.m (.i .i64 1))], none⟩,
    ⟨.v 41, .p .mv, [.l 57], none⟩]))))
def c25_L0 : C := .loop [0, 3, 4, 7, 8, 9, 18, 36, 42, 51] c25_B0
def c25_B1 : C :=
  (.seq
  (.reg [⟨.v 81, .p (.bin .lss), [.v 80, .v 79], none⟩])
  (.seq
  (.ite (.v 81)
    .skip
    (.ex 3))
  (.seq
  (.blk 4
  (.seq
  (.reg [⟨.l 82, .p (.ixa 1), [.v 78, .v 80], none⟩,
    ⟨.l 83, .r (.ld false 1), [.l 82], none⟩,
    ⟨.v 13, .p .mv, [.l 83], none⟩])
  (.seq
  (.reg [⟨.l 84, .p .mv, [.v 13], none⟩,
    ⟨.l 85, .p .mv, [.v 10], none⟩,
    ⟨.l 86, .p (.bin .gtr), [.l 84, .l 85], none⟩,
    ⟨.l 87, .p .mv, [.l 86], none⟩,
    ⟨.l 88, .p .mv, [.v 13], some (.l 87, false)⟩,
    ⟨.l 89, .p .mv, [.v 10], some (.l 87, false)⟩,
    ⟨.l 90, .p (.un .neg), [.l 89], some (.l 87, false)⟩,
    ⟨.l 91, .p (.bin .lss), [.l 88, .l 90], some (.l 87, false)⟩,
    ⟨.v 92, .p .pick, [.l 87, .k (.m (.b true)), .l 91], none⟩])
  (.ite (.v 92)
    (.seq
    (.reg [⟨.l 93, .p (.build [.m (.i .i64 0), .m (.nl 4)] []), [], none⟩,
      ⟨.no, .l (.st 2), [.v 2, .l 93], none⟩,
      ⟨.v 3, .p .mv, [.k (.m (.i .i64 5))], none⟩])
    .ret)
    .skip))))
  (.reg [⟨.l 94, .p (.bin .add), [.v 80, .k (.m (.i .i64 1))], none⟩,
    ⟨.v 80, .p .mv, [.l 94], none⟩]))))
def c25_L1 : C := .loop [13, 39, 40, 41, 42, 66, 74, 81, 92] c25_B1
def c25_B2 : C :=
  (.seq
  (.reg [⟨.v 102, .p (.bin .lss), [.v 101, .v 100], none⟩])
  (.seq
  (.ite (.v 102)
    .skip
    (.ex 5))
  (.seq
  (.blk 6
  (.seq
  (.reg [⟨.l 103, .p .mv, [.v 5], none⟩,
    ⟨.l 104, .l (.cal 56), [.l 103, .k (.m (.i .i64 0))], none⟩,
    ⟨.v 15, .p .mv, [.l 104], none⟩])
  (.seq
  (.seq
  (.reg [⟨.l 105, .p .mv, [.v 15], none⟩,
    ⟨.v 106, .p (.bin .lss), [.l 105, .k (.m (.i .i64 0))], none⟩])
  (.ite (.v 106)
    (.seq
    (.reg [⟨.l 107, .p (.build [.m (.i .i64 0), .m (.nl 4)] []), [], none⟩,
      ⟨.no, .l (.st 2), [.v 2, .l 107], none⟩,
      ⟨.v 3, .p .mv, [.k (.m (.i .i64 4))], none⟩])
    .ret)
    .skip))
  (.seq
  (.reg [⟨.l 108, .p (.fad 1), [.v 14], none⟩,
    ⟨.l 109, .r (.ldb false 1), [.l 108], none⟩,
    ⟨.l 110, .p .mv, [.v 5], none⟩,
    ⟨.l 111, .p .mv, [.v 15], none⟩,
    ⟨.l 112, .p (.slc 1 false true false), [.l 110, .l 111], none⟩,
    ⟨.l 113, .l (.cal 32), [.l 112], none⟩,
    ⟨.l 114, .l (.bsf 1 [.m (.nl 4)] 1 [0]), [.l 113], none⟩,
    ⟨.l 115, .l (.app 35 1 24), [.l 109, .l 114], none⟩,
    ⟨.l 116, .p (.fad 1), [.v 14], none⟩,
    ⟨.no, .l (.st 1), [.l 116, .l 115], none⟩])
  (.reg [⟨.l 117, .p .mv, [.v 5], none⟩,
    ⟨.l 118, .p .mv, [.v 15], none⟩,
    ⟨.l 119, .p (.bin .add), [.l 118, .k (.m (.i .i64 1))], none⟩,
    ⟨.l 120, .p (.slc 1 true false false), [.l 117, .l 119], none⟩,
    ⟨.v 5, .p .mv, [.l 120], none⟩])))))
  (.reg [⟨.l 121, .p (.bin .add), [.v 101, .k (.m (.i .i64 1))], none⟩,
    ⟨.v 101, .p .mv, [.l 121], none⟩]))))
def c25_L2 : C := .loop [10, 11, 15, 78, 79, 80, 81, 96, 102, 106] c25_B2
def c25 : F := ⟨1, [.c 2 2 true, .t 3],
  (.seq
  (.reg [⟨.v 2, .l (.alp 2 [.m (.i .i64 0), .m (.nl 4)]), [], none⟩,
    ⟨.v 3, .p .mv, [.k (.m (.i .i64 0))], none⟩])
  (.seq
  (.seq
  (.reg [⟨.l 16, .p .mv, [.v 0], none⟩,
    ⟨.l 17, .p (.len true), [.l 16], none⟩,
    ⟨.v 18, .p (.bin .gtr), [.l 17, .k (.m (.i .i64 65536))], none⟩])
  (.ite (.v 18)
    (.seq
    (.reg [⟨.l 19, .p (.build [.m (.i .i64 0), .m (.nl 4)] []), [], none⟩,
      ⟨.no, .l (.st 2), [.v 2, .l 19], none⟩,
      ⟨.v 3, .p .mv, [.k (.m (.i .i64 6))], none⟩])
    .ret)
    .skip))
  (.seq
  (.reg [⟨.l 20, .p .mv, [.v 0], none⟩,
    ⟨.l 21, .l (.cal 54), [.l 20], none⟩,
    ⟨.v 4, .p .mv, [.l 21], none⟩])
  (.seq
  (.seq
  (.reg [⟨.l 22, .p .mv, [.v 4], none⟩,
    ⟨.l 23, .p (.len false), [.l 22], none⟩,
    ⟨.l 24, .p (.bin .lss), [.l 23, .k (.m (.i .i64 4))], none⟩,
    ⟨.l 25, .p .mv, [.l 24], none⟩,
    ⟨.l 26, .p .mv, [.v 4], some (.l 25, false)⟩,
    ⟨.l 27, .p (.ixa 1), [.l 26, .k (.m (.i .i64 0))], some (.l 25, false)⟩,
    ⟨.l 28, .r (.ld false 1), [.l 27], some (.l 25, false)⟩,
    ⟨.l 29, .p (.bin .neq), [.l 28, .k (.m (.s [112]))], some (.l 25, false)⟩,
    ⟨.l 30, .p .pick, [.l 25, .k (.m (.b true)), .l 29], none⟩,
    ⟨.l 31, .p .mv, [.l 30], none⟩,
    ⟨.l 32, .p .mv, [.v 4], some (.l 31, false)⟩,
    ⟨.l 33, .p (.ixa 1), [.l 32, .k (.m (.i .i64 1))], some (.l 31, false)⟩,
    ⟨.l 34, .r (.ld false 1), [.l 33], some (.l 31, false)⟩,
    ⟨.l 35, .p (.bin .neq), [.l 34, .k (.m (.s [99, 110, 102]))], some (.l 31, false)⟩,
    ⟨.v 36, .p .pick, [.l 31, .k (.m (.b true)), .l 35], none⟩])
  (.ite (.v 36)
    (.seq
    (.reg [⟨.l 37, .p (.build [.m (.i .i64 0), .m (.nl 4)] []), [], none⟩,
      ⟨.no, .l (.st 2), [.v 2, .l 37], none⟩,
      ⟨.v 3, .p .mv, [.k (.m (.i .i64 15))], none⟩])
    .ret)
    .skip))
  (.seq
  (.reg [⟨.v 5, .p .mv, [.k (.m (.nl 4))], none⟩])
  (.seq
  (.seq
  (.reg [⟨.l 38, .p .mv, [.v 4], none⟩,
    ⟨.v 39, .p (.slc 1 true false false), [.l 38, .k (.m (.i .i64 2))], none⟩,
    ⟨.v 40, .p (.len false), [.v 39], none⟩,
    ⟨.v 41, .p .mv, [.k (.m (.i .i64 0))], none⟩])
  (.blk 0
  c25_L0))
  (.seq
  (.reg [⟨.l 58, .p .mv, [.v 5], none⟩,
    ⟨.l 59, .p (.ixa 1), [.l 58, .k (.m (.i .i64 0))], none⟩,
    ⟨.l 60, .r (.ld false 1), [.l 59], none⟩,
    ⟨.l 61, .p .mv, [.v 5], none⟩,
    ⟨.l 62, .p (.ixa 1), [.l 61, .k (.m (.i .i64 1))], none⟩,
    ⟨.l 63, .r (.ld false 1), [.l 62], none⟩,
    ⟨.v 10, .p .mv, [.l 60], none⟩,
    ⟨.v 11, .p .mv, [.l 63], none⟩])
  (.seq
  (.reg [⟨.l 64, .p .mv, [.v 5], none⟩,
    ⟨.l 65, .p (.slc 1 true false false), [.l 64, .k (.m (.i .i64 2))], none⟩,
    ⟨.v 5, .p .mv, [.l 65], none⟩])
  (.seq
  (.blk 2
  (.seq
  (.reg [⟨.l 67, .p .mv, [.v 10], none⟩,
    ⟨.l 68, .p (.bin .lss), [.l 67, .k (.m (.i .i64 0))], none⟩,
    ⟨.l 69, .p .mv, [.l 68], none⟩,
    ⟨.l 70, .p .mv, [.v 11], some (.l 69, false)⟩,
    ⟨.l 71, .p (.bin .lss), [.l 70, .k (.m (.i .i64 0))], some (.l 69, false)⟩,
    ⟨.l 72, .p .pick, [.l 69, .k (.m (.b true)), .l 71], none⟩,
    ⟨.v 66, .p .mv, [.l 72], none⟩])
  (.ite (.v 66)
    (.seq
    (.reg [⟨.l 73, .p (.build [.m (.i .i64 0), .m (.nl 4)] []), [], none⟩,
      ⟨.no, .l (.st 2), [.v 2, .l 73], none⟩,
      ⟨.v 3, .p .mv, [.k (.m (.i .i64 15))], none⟩])
    .ret)
    (.seq
    (.reg [⟨.l 75, .p .mv, [.v 10], none⟩,
      ⟨.l 76, .p (.bin .gtr), [.l 75, .k (.m (.i .i64 65536))], none⟩,
      ⟨.v 74, .p .mv, [.l 76], none⟩])
    (.ite (.v 74)
      (.seq
      (.reg [⟨.l 77, .p (.build [.m (.i .i64 0), .m (.nl 4)] []), [], none⟩,
        ⟨.no, .l (.st 2), [.v 2, .l 77], none⟩,
        ⟨.v 3, .p .mv, [.k (.m (.i .i64 5))], none⟩])
      .ret)
      .skip)))))
  (.seq
  (.seq
  (.reg [⟨.v 78, .p .mv, [.v 5], none⟩,
    ⟨.v 79, .p (.len false), [.v 78], none⟩,
    ⟨.v 80, .p .mv, [.k (.m (.i .i64 0))], none⟩])
  (.blk 3
  c25_L1))
  (.seq
  (.seq
  (.reg [⟨.l 95, .p .mv, [.v 11], none⟩,
    ⟨.v 96, .p (.bin .gtr), [.l 95, .k (.m (.i .i64 262144))], none⟩])
  (.ite (.v 96)
    (.seq
    (.reg [⟨.l 97, .p (.build [.m (.i .i64 0), .m (.nl 4)] []), [], none⟩,
      ⟨.no, .l (.st 2), [.v 2, .l 97], none⟩,
      ⟨.v 3, .p .mv, [.k (.m (.i .i64 6))], none⟩])
    .ret)
    .skip))
  (.seq
  (.reg [⟨.l 98, .p .mv, [.v 10], none⟩,
    ⟨.l 99, .p (.build [.m (.i .i64 0), .m (.nl 4)] [(0, 1)]), [.l 98], none⟩,
    ⟨.v 14, .l (.alp 14 [.m (.i .i64 0), .m (.nl 4)]), [], none⟩,
    ⟨.no, .l (.st 2), [.v 14, .l 99], none⟩])
  (.seq
  (.seq
  (.reg [⟨.v 100, .p .mv, [.v 11], none⟩,
    ⟨.v 101, .p .mv, [.k (.m (.i .i64 0))], none⟩])
  (.blk 5
  c25_L2))
  (.seq
  (.seq
  (.reg [⟨.l 122, .p .mv, [.v 5], none⟩,
    ⟨.l 123, .p (.len false), [.l 122], none⟩,
    ⟨.v 124, .p (.bin .gtr), [.l 123, .k (.m (.i .i64 0))], none⟩])
  (.ite (.v 124)
    (.seq
    (.reg [⟨.l 125, .p (.build [.m (.i .i64 0), .m (.nl 4)] []), [], none⟩,
      ⟨.no, .l (.st 2), [.v 2, .l 125], none⟩,
      ⟨.v 3, .p .mv, [.k (.m (.i .i64 3))], none⟩])
    .ret)
    .skip))
  (.seq
  (.reg [⟨.l 126, .r (.ld true 2), [.v 14], none⟩,
    ⟨.no, .l (.st 2), [.v 2, .l 126], none⟩,
    ⟨.v 3, .p .mv, [.k (.m (.i .i64 0))], none⟩])
  .ret)))))))))))))))⟩

/- cellular/cellularlaw40.holds -/
def c27_B0 : C :=
  (.seq
  (.reg [⟨.v 10, .p (.bin .lss), [.v 9, .v 8], none⟩])
  (.seq
  (.ite (.v 10)
    .skip
    (.ex 0))
  (.seq
  (.blk 1
  (.seq
  (.reg [⟨.l 11, .p .mv, [.v 9], none⟩,
    ⟨.v 5, .p .mv, [.l 11], none⟩])
  (.seq
  (.reg [⟨.l 12, .p .mv, [.v 0], none⟩,
    ⟨.l 13, .p .mv, [.v 5], none⟩,
    ⟨.l 14, .p (.ixa 1), [.l 12, .l 13], none⟩,
    ⟨.l 15, .r (.ld false 1), [.l 14], none⟩,
    ⟨.l 16, .p .mv, [.v 0], none⟩,
    ⟨.l 17, .p .mv, [.v 5], none⟩,
    ⟨.l 18, .p (.ixa 1), [.l 16, .l 17], none⟩,
    ⟨.l 19, .r (.ld false 1), [.l 18], none⟩,
    ⟨.l 20, .p (.un .neg), [.l 19], none⟩,
    ⟨.l 21, .p (.mm true), [.l 15, .l 20], none⟩,
    ⟨.v 6, .p .mv, [.l 21], none⟩])
  (.seq
  (.reg [⟨.l 22, .p .mv, [.v 6], none⟩,
    ⟨.l 23, .p (.bin .lss), [.l 22, .k (.m (.i .i64 1))], none⟩,
    ⟨.l 24, .p .mv, [.l 23], none⟩,
    ⟨.l 25, .p .mv, [.v 6], some (.l 24, false)⟩,
    ⟨.l 26, .p .mv, [.v 1], some (.l 24, false)⟩,
    ⟨.l 27, .p (.len false), [.l 26], some (.l 24, false)⟩,
    ⟨.l 28, .p (.bin .gtr), [.l 25, .l 27], some (.l 24, false)⟩,
    ⟨.l 29, .p .pick, [.l 24, .k (.m (.b true)), .l 28], none⟩,
    ⟨.l 30, .p .mv, [.l 29], none⟩,
    ⟨.l 31, .p .mv, [.v 1], some (.l 30, false)⟩,
    ⟨.l 32, .p .mv, [.v 6], some (.l 30, false)⟩,
    ⟨.l 33, .p (.bin .sub), [.l 32, .k (.m (.i .i64 1))], some (.l 30, false)⟩,
    ⟨.l 34, .p (.ixa 1), [.l 31, .l 33], some (.l 30, false)⟩,
    ⟨.l 35, .r (.ld false 1), [.l 34], some (.l 30, false)⟩,
    ⟨.l 36, .p .mv, [.v 0], some (.l 30, false)⟩,
    ⟨.l 37, .p .mv, [.v 5], some (.l 30, false)⟩,
    ⟨.l 38, .p (.ixa 1), [.l 36, .l 37], some (.l 30, false)⟩,
    ⟨.l 39, .r (.ld false 1), [.l 38], some (.l 30, false)⟩,
    ⟨.l 40, .p (.bin .gtr), [.l 39, .k (.m (.i .i64 0))], some (.l 30, false)⟩,
    ⟨.l 41, .p (.eqb true), [.l 35, .l 40], some (.l 30, false)⟩,
    ⟨.v 42, .p .pick, [.l 30, .k (.m (.b true)), .l 41], none⟩])
  (.ite (.v 42)
    (.seq
    (.reg [⟨.v 4, .p .mv, [.k (.m (.b false))], none⟩])
    .ret)
    .skip)))))
  (.reg [⟨.l 43, .p (.bin .add), [.v 9, .k (.m (.i .i64 1))], none⟩,
    ⟨.v 9, .p .mv, [.l 43], none⟩]))))
def c27_L0 : C := .loop [4, 5, 6, 10, 42] c27_B0
def c27 : F := ⟨2, [.t 4],
  (.seq
  (.reg [⟨.v 4, .p .mv, [.k (.m (.b false))], none⟩])
  (.seq
  (.seq
  (.reg [⟨.l 7, .p .mv, [.v 0], none⟩,
    ⟨.v 8, .p (.len false), [.l 7], none⟩,
    ⟨.v 9, .p .mv, [.k (.m (.i .i64 0))], none⟩])
  (.blk 0
  c27_L0))
  (.seq
  (.reg [⟨.v 4, .p .mv, [.k (.m (.b true))], none⟩])
  .ret)))⟩

/- slices.ContainsFunc[[]int,int] -/
def c28 : F := ⟨2, [.t 4],
  (.seq
  (.reg [⟨.v 4, .p .mv, [.k (.m (.b false))], none⟩])
  (.seq
  (.reg [⟨.l 5, .p .mv, [.v 0], none⟩,
    ⟨.l 6, .p .mv, [.v 1], none⟩,
    ⟨.l 7, .l (.cal 59), [.l 5, .l 6], none⟩,
    ⟨.l 8, .p (.bin .geq), [.l 7, .k (.m (.i .i64 0))], none⟩,
    ⟨.v 4, .p .mv, [.l 8], none⟩])
  .ret))⟩

/- cellular/formula.Eval$1 -/
def c29 : F := ⟨2, [.t 3],
  (.seq
  (.reg [⟨.v 3, .p .mv, [.k (.m (.b false))], none⟩])
  (.seq
  (.reg [⟨.l 4, .r (.ld false 1), [.v 1], none⟩,
    ⟨.l 5, .p .mv, [.v 0], none⟩,
    ⟨.l 6, .p .mv, [.v 0], none⟩,
    ⟨.l 7, .p (.un .neg), [.l 6], none⟩,
    ⟨.l 8, .p (.mm true), [.l 5, .l 7], none⟩,
    ⟨.l 9, .p (.bin .sub), [.l 8, .k (.m (.i .i64 1))], none⟩,
    ⟨.l 10, .p (.ixa 1), [.l 4, .l 9], none⟩,
    ⟨.l 11, .r (.ld false 1), [.l 10], none⟩,
    ⟨.l 12, .p .mv, [.v 0], none⟩,
    ⟨.l 13, .p (.bin .gtr), [.l 12, .k (.m (.i .i64 0))], none⟩,
    ⟨.l 14, .p (.eqb false), [.l 11, .l 13], none⟩,
    ⟨.v 3, .p .mv, [.l 14], none⟩])
  .ret))⟩

/- cellular/formula.proper -/
def c30_B0 : C :=
  (.seq
  (.reg [⟨.v 10, .p (.bin .lss), [.v 9, .v 8], none⟩])
  (.seq
  (.ite (.v 10)
    .skip
    (.ex 0))
  (.seq
  (.blk 1
  (.seq
  (.reg [⟨.l 11, .p (.ixa 1), [.v 7, .v 9], none⟩,
    ⟨.l 12, .r (.ld false 1), [.l 11], none⟩,
    ⟨.v 6, .p .mv, [.l 12], none⟩])
  (.seq
  (.reg [⟨.l 13, .p .mv, [.v 6], none⟩,
    ⟨.l 14, .p (.bin .eql), [.l 13, .k (.m (.i .i64 0))], none⟩,
    ⟨.l 15, .p .mv, [.l 14], none⟩,
    ⟨.l 16, .p .mv, [.v 6], some (.l 15, false)⟩,
    ⟨.l 17, .p .mv, [.v 0], some (.l 15, false)⟩,
    ⟨.l 18, .p (.bin .gtr), [.l 16, .l 17], some (.l 15, false)⟩,
    ⟨.l 19, .p .pick, [.l 15, .k (.m (.b true)), .l 18], none⟩,
    ⟨.l 20, .p .mv, [.l 19], none⟩,
    ⟨.l 21, .p .mv, [.v 6], some (.l 20, false)⟩,
    ⟨.l 22, .p .mv, [.v 0], some (.l 20, false)⟩,
    ⟨.l 23, .p (.un .neg), [.l 22], some (.l 20, false)⟩,
    ⟨.l 24, .p (.bin .lss), [.l 21, .l 23], some (.l 20, false)⟩,
    ⟨.v 25, .p .pick, [.l 20, .k (.m (.b true)), .l 24], none⟩])
  (.ite (.v 25)
    (.seq
    (.reg [⟨.v 4, .p .mv, [.k (.m (.b false))], none⟩])
    .ret)
    .skip))))
  (.reg [⟨.l 26, .p (.bin .add), [.v 9, .k (.m (.i .i64 1))], none⟩,
    ⟨.v 9, .p .mv, [.l 26], none⟩]))))
def c30_L0 : C := .loop [1, 4, 6, 10, 25] c30_B0
def c30 : F := ⟨2, [.t 4],
  (.seq
  (.reg [⟨.v 4, .p .mv, [.k (.m (.b false))], none⟩])
  (.seq
  (.seq
  (.reg [⟨.v 7, .p .mv, [.v 1], none⟩,
    ⟨.v 8, .p (.len false), [.v 7], none⟩,
    ⟨.v 9, .p .mv, [.k (.m (.i .i64 0))], none⟩])
  (.blk 0
  c30_L0))
  (.seq
  (.reg [⟨.v 4, .p .mv, [.k (.m (.b true))], none⟩])
  .ret)))⟩

/- cellular/cellularref40.literal -/
def c31 : F := ⟨2, [.t 4],
  (.seq
  (.reg [⟨.v 4, .p .mv, [.k (.m (.b false))], none⟩])
  (.seq
  (.reg [⟨.l 5, .p .mv, [.v 0], none⟩,
    ⟨.l 6, .p (.bin .neq), [.l 5, .k (.m (.i .i64 0))], none⟩,
    ⟨.l 7, .p .mv, [.l 6], none⟩,
    ⟨.l 8, .p .mv, [.v 0], some (.l 7, true)⟩,
    ⟨.l 9, .p .mv, [.v 1], some (.l 7, true)⟩,
    ⟨.l 10, .p (.un .neg), [.l 9], some (.l 7, true)⟩,
    ⟨.l 11, .p (.bin .geq), [.l 8, .l 10], some (.l 7, true)⟩,
    ⟨.l 12, .p .pick, [.l 7, .l 11, .k (.m (.b false))], none⟩,
    ⟨.l 13, .p .mv, [.l 12], none⟩,
    ⟨.l 14, .p .mv, [.v 0], some (.l 13, true)⟩,
    ⟨.l 15, .p .mv, [.v 1], some (.l 13, true)⟩,
    ⟨.l 16, .p (.bin .leq), [.l 14, .l 15], some (.l 13, true)⟩,
    ⟨.l 17, .p .pick, [.l 13, .l 16, .k (.m (.b false))], none⟩,
    ⟨.v 4, .p .mv, [.l 17], none⟩])
  .ret))⟩

/- slices.Clone[[]int,int] -/
def c32 : F := ⟨1, [.t 2],
  (.seq
  (.reg [⟨.v 2, .p .mv, [.k (.m (.nl 4))], none⟩])
  (.seq
  (.seq
  (.reg [⟨.l 3, .p .mv, [.v 0], none⟩,
    ⟨.v 4, .p (.eqn false 4), [.l 3], none⟩])
  (.ite (.v 4)
    (.seq
    (.reg [⟨.v 2, .p .mv, [.k (.m (.nl 4))], none⟩])
    .ret)
    .skip))
  (.seq
  (.reg [⟨.l 5, .p (.bsl 1 [.m (.i .i64 0)] 0 []), [], none⟩,
    ⟨.l 6, .p .mv, [.v 0], none⟩,
    ⟨.l 7, .l (.app 3 1 8), [.l 5, .l 6], none⟩,
    ⟨.v 2, .p .mv, [.l 7], none⟩])
  .ret)))⟩

/- cellular/formula.order -/
def c34 : F := ⟨2, [.t 4],
  (.seq
  (.reg [⟨.v 4, .p .mv, [.k (.m (.i .i64 0))], none⟩])
  (.seq
  (.reg [⟨.l 5, .p .mv, [.v 0], none⟩,
    ⟨.l 6, .p .mv, [.v 0], none⟩,
    ⟨.l 7, .p (.un .neg), [.l 6], none⟩,
    ⟨.l 8, .p (.mm true), [.l 5, .l 7], none⟩,
    ⟨.l 9, .p .mv, [.v 1], none⟩,
    ⟨.l 10, .p .mv, [.v 1], none⟩,
    ⟨.l 11, .p (.un .neg), [.l 10], none⟩,
    ⟨.l 12, .p (.mm true), [.l 9, .l 11], none⟩,
    ⟨.l 13, .l (.cal 63), [.l 8, .l 12], none⟩,
    ⟨.l 14, .p .mv, [.v 0], none⟩,
    ⟨.l 15, .p .mv, [.v 1], none⟩,
    ⟨.l 16, .l (.cal 63), [.l 14, .l 15], none⟩,
    ⟨.l 17, .p (.bsl 1 [.m (.i .i64 0)] 2 [0, 1]), [.l 13, .l 16], none⟩,
    ⟨.l 18, .l (.cal 62), [.l 17], none⟩,
    ⟨.v 4, .p .mv, [.l 18], none⟩])
  .ret))⟩

/- slices.Compact[[]int,int] -/
def c35_B0 : C :=
  (.seq
  (.seq
  (.reg [⟨.l 29, .p .mv, [.v 5], none⟩,
    ⟨.l 30, .p .mv, [.v 4], none⟩,
    ⟨.l 31, .p (.len false), [.l 30], none⟩,
    ⟨.v 32, .p (.bin .lss), [.l 29, .l 31], none⟩])
  (.ite (.v 32)
    .skip
    (.ex 2)))
  (.seq
  (.blk 3
  (.seq
  (.reg [⟨.l 35, .p .mv, [.v 4], none⟩,
    ⟨.l 36, .p .mv, [.v 5], none⟩,
    ⟨.l 37, .p (.ixa 1), [.l 35, .l 36], none⟩,
    ⟨.l 38, .r (.ld false 1), [.l 37], none⟩,
    ⟨.l 39, .p .mv, [.v 4], none⟩,
    ⟨.l 40, .p .mv, [.v 5], none⟩,
    ⟨.l 41, .p (.bin .sub), [.l 40, .k (.m (.i .i64 1))], none⟩,
    ⟨.l 42, .p (.ixa 1), [.l 39, .l 41], none⟩,
    ⟨.l 43, .r (.ld false 1), [.l 42], none⟩,
    ⟨.v 44, .p (.bin .neq), [.l 38, .l 43], none⟩])
  (.ite (.v 44)
    (.seq
    (.reg [⟨.l 45, .p .mv, [.v 0], none⟩,
      ⟨.l 46, .p .mv, [.v 3], none⟩,
      ⟨.l 47, .p .mv, [.v 4], none⟩,
      ⟨.l 48, .p .mv, [.v 5], none⟩,
      ⟨.l 49, .p (.ixa 1), [.l 47, .l 48], none⟩,
      ⟨.l 50, .r (.ld false 1), [.l 49], none⟩,
      ⟨.l 51, .p (.ixa 1), [.l 45, .l 46], none⟩,
      ⟨.no, .l (.st 1), [.l 51, .l 50], none⟩])
    (.reg [⟨.l 52, .p .mv, [.v 3], none⟩,
      ⟨.l 53, .p (.bin .add), [.l 52, .k (.m (.i .i64 1))], none⟩,
      ⟨.v 3, .p .mv, [.l 53], none⟩]))
    .skip)))
  (.reg [⟨.l 33, .p .mv, [.v 5], none⟩,
    ⟨.l 34, .p (.bin .add), [.l 33, .k (.m (.i .i64 1))], none⟩,
    ⟨.v 5, .p .mv, [.l 34], none⟩])))
def c35_L0 : C := .loop [13, 25, 32, 44] c35_B0
def c35_B1 : C :=
  (.seq
  (.seq
  (.reg [⟨.l 10, .p .mv, [.v 3], none⟩,
    ⟨.l 11, .p .mv, [.v 0], none⟩,
    ⟨.l 12, .p (.len false), [.l 11], none⟩,
    ⟨.v 13, .p (.bin .lss), [.l 10, .l 12], none⟩])
  (.ite (.v 13)
    .skip
    (.ex 0)))
  (.seq
  (.blk 1
  (.seq
  (.reg [⟨.l 16, .p .mv, [.v 0], none⟩,
    ⟨.l 17, .p .mv, [.v 3], none⟩,
    ⟨.l 18, .p (.ixa 1), [.l 16, .l 17], none⟩,
    ⟨.l 19, .r (.ld false 1), [.l 18], none⟩,
    ⟨.l 20, .p .mv, [.v 0], none⟩,
    ⟨.l 21, .p .mv, [.v 3], none⟩,
    ⟨.l 22, .p (.bin .sub), [.l 21, .k (.m (.i .i64 1))], none⟩,
    ⟨.l 23, .p (.ixa 1), [.l 20, .l 22], none⟩,
    ⟨.l 24, .r (.ld false 1), [.l 23], none⟩,
    ⟨.v 25, .p (.bin .eql), [.l 19, .l 24], none⟩])
  (.ite (.v 25)
    (.seq
    (.reg [⟨.l 26, .p .mv, [.v 0], none⟩,
      ⟨.l 27, .p .mv, [.v 3], none⟩,
      ⟨.l 28, .p (.slc 1 true false false), [.l 26, .l 27], none⟩,
      ⟨.v 4, .p .mv, [.l 28], none⟩])
    (.seq
    (.seq
    (.reg [⟨.v 5, .p .mv, [.k (.m (.i .i64 1))], none⟩])
    (.blk 2
    c35_L0))
    (.seq
    (.reg [⟨.l 54, .p .mv, [.v 0], none⟩,
      ⟨.l 55, .p .mv, [.v 3], none⟩,
      ⟨.l 56, .p (.slc 1 true false false), [.l 54, .l 55], none⟩,
      ⟨.no, .l (.clr (.m (.i .i64 0))), [.l 56], none⟩])
    (.seq
    (.reg [⟨.l 57, .p .mv, [.v 0], none⟩,
      ⟨.l 58, .p .mv, [.v 3], none⟩,
      ⟨.l 59, .p (.slc 1 false true false), [.l 57, .l 58], none⟩,
      ⟨.v 2, .p .mv, [.l 59], none⟩])
    .ret))))
    .skip)))
  (.reg [⟨.l 14, .p .mv, [.v 3], none⟩,
    ⟨.l 15, .p (.bin .add), [.l 14, .k (.m (.i .i64 1))], none⟩,
    ⟨.v 3, .p .mv, [.l 15], none⟩])))
def c35_L1 : C := .loop [2, 8, 13, 25] c35_B1
def c35 : F := ⟨1, [.t 2],
  (.seq
  (.reg [⟨.v 2, .p .mv, [.k (.m (.nl 4))], none⟩])
  (.seq
  (.seq
  (.reg [⟨.l 6, .p .mv, [.v 0], none⟩,
    ⟨.l 7, .p (.len false), [.l 6], none⟩,
    ⟨.v 8, .p (.bin .lss), [.l 7, .k (.m (.i .i64 2))], none⟩])
  (.ite (.v 8)
    (.seq
    (.reg [⟨.l 9, .p .mv, [.v 0], none⟩,
      ⟨.v 2, .p .mv, [.l 9], none⟩])
    .ret)
    .skip))
  (.seq
  (.seq
  (.reg [⟨.v 3, .p .mv, [.k (.m (.i .i64 1))], none⟩])
  (.blk 0
  c35_L1))
  (.seq
  (.reg [⟨.l 60, .p .mv, [.v 0], none⟩,
    ⟨.v 2, .p .mv, [.l 60], none⟩])
  .ret))))⟩

/- cellular/formula.Sort$1 -/
def c36 : F := ⟨2, [.t 4],
  (.seq
  (.reg [⟨.v 4, .p .mv, [.k (.m (.i .i64 0))], none⟩])
  (.seq
  (.reg [⟨.l 5, .p .mv, [.v 0], none⟩,
    ⟨.l 6, .p .mv, [.v 1], none⟩,
    ⟨.l 7, .l (.cal 37), [.l 5, .l 6, .k (.m (.fn 34 []))], none⟩,
    ⟨.v 4, .p .mv, [.l 7], none⟩])
  .ret))⟩

/- slices.CompareFunc[[]int,[]int,int,int] -/
def c37_B0 : C :=
  (.seq
  (.reg [⟨.v 14, .p (.bin .lss), [.v 13, .v 12], none⟩])
  (.seq
  (.ite (.v 14)
    .skip
    (.ex 0))
  (.seq
  (.blk 1
  (.seq
  (.reg [⟨.l 15, .p .mv, [.v 13], none⟩,
    ⟨.l 16, .p (.ixa 1), [.v 11, .v 13], none⟩,
    ⟨.l 17, .r (.ld false 1), [.l 16], none⟩,
    ⟨.v 7, .p .mv, [.l 15], none⟩,
    ⟨.v 8, .p .mv, [.l 17], none⟩])
  (.seq
  (.seq
  (.reg [⟨.l 18, .p .mv, [.v 7], none⟩,
    ⟨.l 19, .p .mv, [.v 1], none⟩,
    ⟨.l 20, .p (.len false), [.l 19], none⟩,
    ⟨.v 21, .p (.bin .geq), [.l 18, .l 20], none⟩])
  (.ite (.v 21)
    (.seq
    (.reg [⟨.v 6, .p .mv, [.k (.m (.i .i64 1))], none⟩])
    .ret)
    .skip))
  (.seq
  (.reg [⟨.l 22, .p .mv, [.v 1], none⟩,
    ⟨.l 23, .p .mv, [.v 7], none⟩,
    ⟨.l 24, .p (.ixa 1), [.l 22, .l 23], none⟩,
    ⟨.l 25, .r (.ld false 1), [.l 24], none⟩,
    ⟨.v 9, .p .mv, [.l 25], none⟩])
  (.seq
  (.reg [⟨.l 26, .p .mv, [.v 2], none⟩,
    ⟨.l 27, .p .mv, [.v 8], none⟩,
    ⟨.l 28, .p .mv, [.v 9], none⟩,
    ⟨.l 29, .l .cav, [.l 26, .l 27, .l 28], none⟩,
    ⟨.v 10, .p .mv, [.l 29], none⟩])
  (.seq
  (.reg [⟨.l 30, .p .mv, [.v 10], none⟩,
    ⟨.v 31, .p (.bin .neq), [.l 30, .k (.m (.i .i64 0))], none⟩])
  (.ite (.v 31)
    (.seq
    (.reg [⟨.l 32, .p .mv, [.v 10], none⟩,
      ⟨.v 6, .p .mv, [.l 32], none⟩])
    .ret)
    .skip)))))))
  (.reg [⟨.l 33, .p (.bin .add), [.v 13, .k (.m (.i .i64 1))], none⟩,
    ⟨.v 13, .p .mv, [.l 33], none⟩]))))
def c37_L0 : C := .loop [6, 7, 8, 9, 10, 14, 21, 31] c37_B0
def c37 : F := ⟨3, [.t 6],
  (.seq
  (.reg [⟨.v 6, .p .mv, [.k (.m (.i .i64 0))], none⟩])
  (.seq
  (.seq
  (.reg [⟨.v 11, .p .mv, [.v 0], none⟩,
    ⟨.v 12, .p (.len false), [.v 11], none⟩,
    ⟨.v 13, .p .mv, [.k (.m (.i .i64 0))], none⟩])
  (.blk 0
  c37_L0))
  (.seq
  (.seq
  (.reg [⟨.l 34, .p .mv, [.v 0], none⟩,
    ⟨.l 35, .p (.len false), [.l 34], none⟩,
    ⟨.l 36, .p .mv, [.v 1], none⟩,
    ⟨.l 37, .p (.len false), [.l 36], none⟩,
    ⟨.v 38, .p (.bin .lss), [.l 35, .l 37], none⟩])
  (.ite (.v 38)
    (.seq
    (.reg [⟨.v 6, .p .mv, [.k (.m (.i .i64 (-1)))], none⟩])
    .ret)
    .skip))
  (.seq
  (.reg [⟨.v 6, .p .mv, [.k (.m (.i .i64 0))], none⟩])
  .ret))))⟩

/- slices.CompactFunc[[][]int,[]int] -/
def c39_B0 : C :=
  (.seq
  (.seq
  (.reg [⟨.l 32, .p .mv, [.v 7], none⟩,
    ⟨.l 33, .p .mv, [.v 6], none⟩,
    ⟨.l 34, .p (.len false), [.l 33], none⟩,
    ⟨.v 35, .p (.bin .lss), [.l 32, .l 34], none⟩])
  (.ite (.v 35)
    .skip
    (.ex 2)))
  (.seq
  (.blk 3
  (.seq
  (.reg [⟨.l 38, .p .mv, [.v 1], none⟩,
    ⟨.l 39, .p .mv, [.v 6], none⟩,
    ⟨.l 40, .p .mv, [.v 7], none⟩,
    ⟨.l 41, .p (.ixa 1), [.l 39, .l 40], none⟩,
    ⟨.l 42, .r (.ld false 1), [.l 41], none⟩,
    ⟨.l 43, .p .mv, [.v 6], none⟩,
    ⟨.l 44, .p .mv, [.v 7], none⟩,
    ⟨.l 45, .p (.bin .sub), [.l 44, .k (.m (.i .i64 1))], none⟩,
    ⟨.l 46, .p (.ixa 1), [.l 43, .l 45], none⟩,
    ⟨.l 47, .r (.ld false 1), [.l 46], none⟩,
    ⟨.l 48, .l .cav, [.l 38, .l 42, .l 47], none⟩,
    ⟨.v 49, .p (.un .not), [.l 48], none⟩])
  (.ite (.v 49)
    (.seq
    (.reg [⟨.l 50, .p .mv, [.v 0], none⟩,
      ⟨.l 51, .p .mv, [.v 5], none⟩,
      ⟨.l 52, .p .mv, [.v 6], none⟩,
      ⟨.l 53, .p .mv, [.v 7], none⟩,
      ⟨.l 54, .p (.ixa 1), [.l 52, .l 53], none⟩,
      ⟨.l 55, .r (.ld false 1), [.l 54], none⟩,
      ⟨.l 56, .p (.ixa 1), [.l 50, .l 51], none⟩,
      ⟨.no, .l (.st 1), [.l 56, .l 55], none⟩])
    (.reg [⟨.l 57, .p .mv, [.v 5], none⟩,
      ⟨.l 58, .p (.bin .add), [.l 57, .k (.m (.i .i64 1))], none⟩,
      ⟨.v 5, .p .mv, [.l 58], none⟩]))
    .skip)))
  (.reg [⟨.l 36, .p .mv, [.v 7], none⟩,
    ⟨.l 37, .p (.bin .add), [.l 36, .k (.m (.i .i64 1))], none⟩,
    ⟨.v 7, .p .mv, [.l 37], none⟩])))
def c39_L0 : C := .loop [15, 28, 35, 49] c39_B0
def c39_B1 : C :=
  (.seq
  (.seq
  (.reg [⟨.l 12, .p .mv, [.v 5], none⟩,
    ⟨.l 13, .p .mv, [.v 0], none⟩,
    ⟨.l 14, .p (.len false), [.l 13], none⟩,
    ⟨.v 15, .p (.bin .lss), [.l 12, .l 14], none⟩])
  (.ite (.v 15)
    .skip
    (.ex 0)))
  (.seq
  (.blk 1
  (.seq
  (.reg [⟨.l 18, .p .mv, [.v 1], none⟩,
    ⟨.l 19, .p .mv, [.v 0], none⟩,
    ⟨.l 20, .p .mv, [.v 5], none⟩,
    ⟨.l 21, .p (.ixa 1), [.l 19, .l 20], none⟩,
    ⟨.l 22, .r (.ld false 1), [.l 21], none⟩,
    ⟨.l 23, .p .mv, [.v 0], none⟩,
    ⟨.l 24, .p .mv, [.v 5], none⟩,
    ⟨.l 25, .p (.bin .sub), [.l 24, .k (.m (.i .i64 1))], none⟩,
    ⟨.l 26, .p (.ixa 1), [.l 23, .l 25], none⟩,
    ⟨.l 27, .r (.ld false 1), [.l 26], none⟩,
    ⟨.v 28, .l .cav, [.l 18, .l 22, .l 27], none⟩])
  (.ite (.v 28)
    (.seq
    (.reg [⟨.l 29, .p .mv, [.v 0], none⟩,
      ⟨.l 30, .p .mv, [.v 5], none⟩,
      ⟨.l 31, .p (.slc 1 true false false), [.l 29, .l 30], none⟩,
      ⟨.v 6, .p .mv, [.l 31], none⟩])
    (.seq
    (.seq
    (.reg [⟨.v 7, .p .mv, [.k (.m (.i .i64 1))], none⟩])
    (.blk 2
    c39_L0))
    (.seq
    (.reg [⟨.l 59, .p .mv, [.v 0], none⟩,
      ⟨.l 60, .p .mv, [.v 5], none⟩,
      ⟨.l 61, .p (.slc 1 true false false), [.l 59, .l 60], none⟩,
      ⟨.no, .l (.clr (.m (.nl 4))), [.l 61], none⟩])
    (.seq
    (.reg [⟨.l 62, .p .mv, [.v 0], none⟩,
      ⟨.l 63, .p .mv, [.v 5], none⟩,
      ⟨.l 64, .p (.slc 1 false true false), [.l 62, .l 63], none⟩,
      ⟨.v 4, .p .mv, [.l 64], none⟩])
    .ret))))
    .skip)))
  (.reg [⟨.l 16, .p .mv, [.v 5], none⟩,
    ⟨.l 17, .p (.bin .add), [.l 16, .k (.m (.i .i64 1))], none⟩,
    ⟨.v 5, .p .mv, [.l 17], none⟩])))
def c39_L1 : C := .loop [4, 10, 15, 28] c39_B1
def c39 : F := ⟨2, [.t 4],
  (.seq
  (.reg [⟨.v 4, .p .mv, [.k (.m (.nl 4))], none⟩])
  (.seq
  (.seq
  (.reg [⟨.l 8, .p .mv, [.v 0], none⟩,
    ⟨.l 9, .p (.len false), [.l 8], none⟩,
    ⟨.v 10, .p (.bin .lss), [.l 9, .k (.m (.i .i64 2))], none⟩])
  (.ite (.v 10)
    (.seq
    (.reg [⟨.l 11, .p .mv, [.v 0], none⟩,
      ⟨.v 4, .p .mv, [.l 11], none⟩])
    .ret)
    .skip))
  (.seq
  (.seq
  (.reg [⟨.v 5, .p .mv, [.k (.m (.i .i64 1))], none⟩])
  (.blk 0
  c39_L1))
  (.seq
  (.reg [⟨.l 65, .p .mv, [.v 0], none⟩,
    ⟨.v 4, .p .mv, [.l 65], none⟩])
  .ret))))⟩

/- cellular/formula.Sort$2 -/
def c40 : F := ⟨3, [.t 5],
  (.seq
  (.reg [⟨.v 5, .p .mv, [.k (.m (.b false))], none⟩])
  (.seq
  (.reg [⟨.l 6, .r (.ld false 1), [.v 2], none⟩,
    ⟨.l 7, .p .mv, [.v 0], none⟩,
    ⟨.l 8, .p .mv, [.v 1], none⟩,
    ⟨.l 9, .l .cav, [.l 6, .l 7, .l 8], none⟩,
    ⟨.l 10, .p (.bin .eql), [.l 9, .k (.m (.i .i64 0))], none⟩,
    ⟨.v 5, .p .mv, [.l 10], none⟩])
  .ret))⟩

/- cellular/cellularref40.sorted -/
def c41_B0 : C :=
  (.seq
  (.seq
  (.reg [⟨.l 19, .p .mv, [.v 6], none⟩,
    ⟨.l 20, .p .mv, [.v 3], none⟩,
    ⟨.l 21, .p (.len false), [.l 20], none⟩,
    ⟨.l 22, .p (.bin .lss), [.l 19, .l 21], none⟩,
    ⟨.l 23, .p .mv, [.l 22], none⟩,
    ⟨.l 24, .p .mv, [.v 3], some (.l 23, true)⟩,
    ⟨.l 25, .p .mv, [.v 6], some (.l 23, true)⟩,
    ⟨.l 26, .p (.ixa 1), [.l 24, .l 25], some (.l 23, true)⟩,
    ⟨.l 27, .r (.ld false 1), [.l 26], some (.l 23, true)⟩,
    ⟨.l 28, .p .mv, [.v 0], some (.l 23, true)⟩,
    ⟨.l 29, .p .mv, [.v 4], some (.l 23, true)⟩,
    ⟨.l 30, .p (.ixa 1), [.l 28, .l 29], some (.l 23, true)⟩,
    ⟨.l 31, .r (.ld false 1), [.l 30], some (.l 23, true)⟩,
    ⟨.l 32, .l (.cal 66), [.l 27, .l 31], some (.l 23, true)⟩,
    ⟨.v 33, .p .pick, [.l 23, .l 32, .k (.m (.b false))], none⟩])
  (.ite (.v 33)
    .skip
    (.ex 2)))
  (.blk 3
  (.seq
  (.reg [⟨.l 34, .p .mv, [.v 5], none⟩,
    ⟨.l 35, .p .mv, [.v 3], none⟩,
    ⟨.l 36, .p .mv, [.v 6], none⟩,
    ⟨.l 37, .p (.ixa 1), [.l 35, .l 36], none⟩,
    ⟨.l 38, .r (.ld false 1), [.l 37], none⟩,
    ⟨.l 39, .p (.bsl 1 [.m (.i .i64 0)] 1 [0]), [.l 38], none⟩,
    ⟨.l 40, .l (.app 3 1 8), [.l 34, .l 39], none⟩,
    ⟨.v 5, .p .mv, [.l 40], none⟩])
  (.reg [⟨.l 41, .p .mv, [.v 6], none⟩,
    ⟨.l 42, .p (.bin .add), [.l 41, .k (.m (.i .i64 1))], none⟩,
    ⟨.v 6, .p .mv, [.l 42], none⟩]))))
def c41_L0 : C := .loop [10, 18, 33] c41_B0
def c41_B1 : C :=
  (.seq
  (.seq
  (.reg [⟨.l 7, .p .mv, [.v 4], none⟩,
    ⟨.l 8, .p .mv, [.v 0], none⟩,
    ⟨.l 9, .p (.len false), [.l 8], none⟩,
    ⟨.v 10, .p (.bin .lss), [.l 7, .l 9], none⟩])
  (.ite (.v 10)
    .skip
    (.ex 0)))
  (.seq
  (.blk 1
  (.seq
  (.seq
  (.reg [⟨.l 13, .p .mv, [.v 3], none⟩,
    ⟨.l 14, .p .mv, [.v 0], none⟩,
    ⟨.l 15, .p .mv, [.v 4], none⟩,
    ⟨.l 16, .p (.ixa 1), [.l 14, .l 15], none⟩,
    ⟨.l 17, .r (.ld false 1), [.l 16], none⟩,
    ⟨.v 18, .l (.cal 65), [.l 13, .l 17], none⟩])
  (.ite (.v 18)
    (.ex 1)
    .skip))
  (.seq
  (.reg [⟨.v 5, .p .mv, [.k (.m (.nl 4))], none⟩])
  (.seq
  (.reg [⟨.v 6, .p .mv, [.k (.m (.i .i64 0))], none⟩])
  (.seq
  (.blk 2
  c41_L0)
  (.seq
  (.reg [⟨.l 43, .p .mv, [.v 5], none⟩,
    ⟨.l 44, .p .mv, [.v 0], none⟩,
    ⟨.l 45, .p .mv, [.v 4], none⟩,
    ⟨.l 46, .p (.ixa 1), [.l 44, .l 45], none⟩,
    ⟨.l 47, .r (.ld false 1), [.l 46], none⟩,
    ⟨.l 48, .p (.bsl 1 [.m (.i .i64 0)] 1 [0]), [.l 47], none⟩,
    ⟨.l 49, .l (.app 3 1 8), [.l 43, .l 48], none⟩,
    ⟨.v 5, .p .mv, [.l 49], none⟩])
  (.seq
  (.reg [⟨.l 50, .p .mv, [.v 5], none⟩,
    ⟨.l 51, .p .mv, [.v 3], none⟩,
    ⟨.l 52, .p .mv, [.v 6], none⟩,
    ⟨.l 53, .p (.slc 1 true false false), [.l 51, .l 52], none⟩,
    ⟨.l 54, .l (.app 3 1 8), [.l 50, .l 53], none⟩,
    ⟨.v 5, .p .mv, [.l 54], none⟩])
  (.reg [⟨.l 55, .p .mv, [.v 5], none⟩,
    ⟨.v 3, .p .mv, [.l 55], none⟩]))))))))
  (.reg [⟨.l 11, .p .mv, [.v 4], none⟩,
    ⟨.l 12, .p (.bin .add), [.l 11, .k (.m (.i .i64 1))], none⟩,
    ⟨.v 4, .p .mv, [.l 12], none⟩])))
def c41_L1 : C := .loop [2, 5, 6, 10, 18, 33] c41_B1
def c41 : F := ⟨1, [.t 2],
  (.seq
  (.reg [⟨.v 2, .p .mv, [.k (.m (.nl 4))], none⟩])
  (.seq
  (.reg [⟨.v 3, .p .mv, [.k (.m (.nl 4))], none⟩])
  (.seq
  (.seq
  (.reg [⟨.v 4, .p .mv, [.k (.m (.i .i64 0))], none⟩])
  (.blk 0
  c41_L1))
  (.seq
  (.reg [⟨.l 56, .p .mv, [.v 3], none⟩,
    ⟨.v 2, .p .mv, [.l 56], none⟩])
  .ret))))⟩

/- cellular/cellularref40.opposed -/
def c42_B0 : C :=
  (.seq
  (.seq
  (.reg [⟨.l 4, .p .mv, [.v 3], none⟩,
    ⟨.l 5, .p .mv, [.v 0], none⟩,
    ⟨.l 6, .p (.len false), [.l 5], none⟩,
    ⟨.v 7, .p (.bin .lss), [.l 4, .l 6], none⟩])
  (.ite (.v 7)
    .skip
    (.ex 0)))
  (.seq
  (.blk 1
  (.seq
  (.reg [⟨.l 10, .p .mv, [.v 0], none⟩,
    ⟨.l 11, .p .mv, [.v 0], none⟩,
    ⟨.l 12, .p .mv, [.v 3], none⟩,
    ⟨.l 13, .p (.ixa 1), [.l 11, .l 12], none⟩,
    ⟨.l 14, .r (.ld false 1), [.l 13], none⟩,
    ⟨.l 15, .p (.un .neg), [.l 14], none⟩,
    ⟨.v 16, .l (.cal 65), [.l 10, .l 15], none⟩])
  (.ite (.v 16)
    (.seq
    (.reg [⟨.v 2, .p .mv, [.k (.m (.b true))], none⟩])
    .ret)
    .skip)))
  (.reg [⟨.l 8, .p .mv, [.v 3], none⟩,
    ⟨.l 9, .p (.bin .add), [.l 8, .k (.m (.i .i64 1))], none⟩,
    ⟨.v 3, .p .mv, [.l 9], none⟩])))
def c42_L0 : C := .loop [2, 7, 16] c42_B0
def c42 : F := ⟨1, [.t 2],
  (.seq
  (.reg [⟨.v 2, .p .mv, [.k (.m (.b false))], none⟩])
  (.seq
  (.seq
  (.reg [⟨.v 3, .p .mv, [.k (.m (.i .i64 0))], none⟩])
  (.blk 0
  c42_L0))
  (.seq
  (.reg [⟨.v 2, .p .mv, [.k (.m (.b false))], none⟩])
  .ret)))⟩

/- cellular/cellularref40.compare -/
def c43_B0 : C :=
  (.seq
  (.seq
  (.reg [⟨.l 6, .p .mv, [.v 5], none⟩,
    ⟨.l 7, .p .mv, [.v 0], none⟩,
    ⟨.l 8, .p (.len false), [.l 7], none⟩,
    ⟨.l 9, .p (.bin .lss), [.l 6, .l 8], none⟩,
    ⟨.l 10, .p .mv, [.l 9], none⟩,
    ⟨.l 11, .p .mv, [.v 5], some (.l 10, true)⟩,
    ⟨.l 12, .p .mv, [.v 1], some (.l 10, true)⟩,
    ⟨.l 13, .p (.len false), [.l 12], some (.l 10, true)⟩,
    ⟨.l 14, .p (.bin .lss), [.l 11, .l 13], some (.l 10, true)⟩,
    ⟨.v 15, .p .pick, [.l 10, .l 14, .k (.m (.b false))], none⟩])
  (.ite (.v 15)
    .skip
    (.ex 0)))
  (.seq
  (.blk 1
  (.seq
  (.seq
  (.reg [⟨.l 18, .p .mv, [.v 0], none⟩,
    ⟨.l 19, .p .mv, [.v 5], none⟩,
    ⟨.l 20, .p (.ixa 1), [.l 18, .l 19], none⟩,
    ⟨.l 21, .r (.ld false 1), [.l 20], none⟩,
    ⟨.l 22, .p .mv, [.v 1], none⟩,
    ⟨.l 23, .p .mv, [.v 5], none⟩,
    ⟨.l 24, .p (.ixa 1), [.l 22, .l 23], none⟩,
    ⟨.l 25, .r (.ld false 1), [.l 24], none⟩,
    ⟨.v 26, .l (.cal 66), [.l 21, .l 25], none⟩])
  (.ite (.v 26)
    (.seq
    (.reg [⟨.v 4, .p .mv, [.k (.m (.i .i64 (-1)))], none⟩])
    .ret)
    .skip))
  (.seq
  (.reg [⟨.l 27, .p .mv, [.v 1], none⟩,
    ⟨.l 28, .p .mv, [.v 5], none⟩,
    ⟨.l 29, .p (.ixa 1), [.l 27, .l 28], none⟩,
    ⟨.l 30, .r (.ld false 1), [.l 29], none⟩,
    ⟨.l 31, .p .mv, [.v 0], none⟩,
    ⟨.l 32, .p .mv, [.v 5], none⟩,
    ⟨.l 33, .p (.ixa 1), [.l 31, .l 32], none⟩,
    ⟨.l 34, .r (.ld false 1), [.l 33], none⟩,
    ⟨.v 35, .l (.cal 66), [.l 30, .l 34], none⟩])
  (.ite (.v 35)
    (.seq
    (.reg [⟨.v 4, .p .mv, [.k (.m (.i .i64 1))], none⟩])
    .ret)
    .skip))))
  (.reg [⟨.l 16, .p .mv, [.v 5], none⟩,
    ⟨.l 17, .p (.bin .add), [.l 16, .k (.m (.i .i64 1))], none⟩,
    ⟨.v 5, .p .mv, [.l 17], none⟩])))
def c43_L0 : C := .loop [4, 15, 26, 35] c43_B0
def c43 : F := ⟨2, [.t 4],
  (.seq
  (.reg [⟨.v 4, .p .mv, [.k (.m (.i .i64 0))], none⟩])
  (.seq
  (.seq
  (.reg [⟨.v 5, .p .mv, [.k (.m (.i .i64 0))], none⟩])
  (.blk 0
  c43_L0))
  (.seq
  (.seq
  (.reg [⟨.l 36, .p .mv, [.v 0], none⟩,
    ⟨.l 37, .p (.len false), [.l 36], none⟩,
    ⟨.l 38, .p .mv, [.v 1], none⟩,
    ⟨.l 39, .p (.len false), [.l 38], none⟩,
    ⟨.v 40, .p (.bin .lss), [.l 37, .l 39], none⟩])
  (.ite (.v 40)
    (.seq
    (.reg [⟨.v 4, .p .mv, [.k (.m (.i .i64 (-1)))], none⟩])
    .ret)
    .skip))
  (.seq
  (.seq
  (.reg [⟨.l 41, .p .mv, [.v 0], none⟩,
    ⟨.l 42, .p (.len false), [.l 41], none⟩,
    ⟨.l 43, .p .mv, [.v 1], none⟩,
    ⟨.l 44, .p (.len false), [.l 43], none⟩,
    ⟨.v 45, .p (.bin .gtr), [.l 42, .l 44], none⟩])
  (.ite (.v 45)
    (.seq
    (.reg [⟨.v 4, .p .mv, [.k (.m (.i .i64 1))], none⟩])
    .ret)
    .skip))
  (.seq
  (.reg [⟨.v 4, .p .mv, [.k (.m (.i .i64 0))], none⟩])
  .ret)))))⟩

/- cellular/formula.truths -/
def c44_B0 : C :=
  (.seq
  (.reg [⟨.v 11, .p (.bin .lss), [.v 10, .v 9], none⟩])
  (.seq
  (.ite (.v 11)
    .skip
    (.ex 0))
  (.seq
  (.blk 1
  (.seq
  (.reg [⟨.l 12, .p (.ixa 1), [.v 8, .v 10], none⟩,
    ⟨.l 13, .r (.ld false 1), [.l 12], none⟩,
    ⟨.v 6, .p .mv, [.l 13], none⟩])
  (.seq
  (.reg [⟨.l 14, .p .mv, [.v 4], none⟩,
    ⟨.l 15, .p .mv, [.v 6], none⟩,
    ⟨.no, .l (.mup ⟨false, [1]⟩), [.l 14, .l 15, .k (.m (.b true))], none⟩])
  (.seq
  (.reg [⟨.l 16, .p .mv, [.v 4], none⟩,
    ⟨.l 17, .p .mv, [.v 6], none⟩,
    ⟨.l 18, .p (.un .neg), [.l 17], none⟩,
    ⟨.v 19, .r (.lkp ⟨false, [1]⟩ [.m (.b false)] false false), [.l 16, .l 18], none⟩])
  (.ite (.v 19)
    (.seq
    (.reg [⟨.v 2, .p .mv, [.k (.m (.nl 1))], none⟩,
      ⟨.v 3, .p .mv, [.k (.m (.b false))], none⟩])
    .ret)
    .skip)))))
  (.reg [⟨.l 20, .p (.bin .add), [.v 10, .k (.m (.i .i64 1))], none⟩,
    ⟨.v 10, .p .mv, [.l 20], none⟩]))))
def c44_L0 : C := .loop [0, 2, 3, 6, 11, 19] c44_B0
def c44 : F := ⟨1, [.t 2, .t 3],
  (.seq
  (.reg [⟨.v 2, .p .mv, [.k (.m (.nl 1))], none⟩,
    ⟨.v 3, .p .mv, [.k (.m (.b false))], none⟩])
  (.seq
  (.reg [⟨.l 7, .l .mkm, [], none⟩,
    ⟨.v 4, .p .mv, [.l 7], none⟩])
  (.seq
  (.seq
  (.reg [⟨.v 8, .p .mv, [.v 0], none⟩,
    ⟨.v 9, .p (.len false), [.v 8], none⟩,
    ⟨.v 10, .p .mv, [.k (.m (.i .i64 0))], none⟩])
  (.blk 0
  c44_L0))
  (.seq
  (.reg [⟨.l 21, .p .mv, [.v 4], none⟩,
    ⟨.v 2, .p .mv, [.l 21], none⟩,
    ⟨.v 3, .p .mv, [.k (.m (.b true))], none⟩])
  .ret))))⟩

/- cellular/formula.Assume$1 -/
def c45 : F := ⟨2, [.t 3],
  (.seq
  (.reg [⟨.v 3, .p .mv, [.k (.m (.b false))], none⟩])
  (.seq
  (.reg [⟨.l 4, .r (.ld false 1), [.v 1], none⟩,
    ⟨.l 5, .p .mv, [.v 0], none⟩,
    ⟨.l 6, .r (.lkp ⟨false, [1]⟩ [.m (.b false)] false false), [.l 4, .l 5], none⟩,
    ⟨.v 3, .p .mv, [.l 6], none⟩])
  .ret))⟩

/- cellular/cellularref40.literals -/
def c46_B0 : C :=
  (.seq
  (.seq
  (.reg [⟨.l 6, .p .mv, [.v 5], none⟩,
    ⟨.l 7, .p .mv, [.v 1], none⟩,
    ⟨.l 8, .p (.len false), [.l 7], none⟩,
    ⟨.v 9, .p (.bin .lss), [.l 6, .l 8], none⟩])
  (.ite (.v 9)
    .skip
    (.ex 0)))
  (.seq
  (.blk 1
  (.seq
  (.reg [⟨.l 12, .p .mv, [.v 1], none⟩,
    ⟨.l 13, .p .mv, [.v 5], none⟩,
    ⟨.l 14, .p (.ixa 1), [.l 12, .l 13], none⟩,
    ⟨.l 15, .r (.ld false 1), [.l 14], none⟩,
    ⟨.l 16, .p (.fad 0), [.v 2], none⟩,
    ⟨.l 17, .r (.ld false 1), [.l 16], none⟩,
    ⟨.l 18, .l (.cal 31), [.l 15, .l 17], none⟩,
    ⟨.v 19, .p (.un .not), [.l 18], none⟩])
  (.ite (.v 19)
    (.seq
    (.reg [⟨.v 4, .p .mv, [.k (.m (.b false))], none⟩])
    .ret)
    .skip)))
  (.reg [⟨.l 10, .p .mv, [.v 5], none⟩,
    ⟨.l 11, .p (.bin .add), [.l 10, .k (.m (.i .i64 1))], none⟩,
    ⟨.v 5, .p .mv, [.l 11], none⟩])))
def c46_L0 : C := .loop [0, 4, 9, 19] c46_B0
def c46 : F := ⟨2, [.t 4],
  (.seq
  (.reg [⟨.v 2, .l (.bxp 2 2), [.v 0], none⟩,
    ⟨.v 4, .p .mv, [.k (.m (.b false))], none⟩])
  (.seq
  (.seq
  (.reg [⟨.v 5, .p .mv, [.k (.m (.i .i64 0))], none⟩])
  (.blk 0
  c46_L0))
  (.seq
  (.reg [⟨.v 4, .p .mv, [.k (.m (.b true))], none⟩])
  .ret)))⟩

/- cellular/cellularref40.rest -/
def c47_B0 : C :=
  (.seq
  (.seq
  (.reg [⟨.l 9, .p .mv, [.v 7], none⟩,
    ⟨.l 10, .p .mv, [.v 0], none⟩,
    ⟨.l 11, .p (.len false), [.l 10], none⟩,
    ⟨.v 12, .p (.bin .lss), [.l 9, .l 11], none⟩])
  (.ite (.v 12)
    .skip
    (.ex 0)))
  (.seq
  (.blk 1
  (.seq
  (.seq
  (.reg [⟨.l 15, .p .mv, [.v 1], none⟩,
    ⟨.l 16, .p .mv, [.v 0], none⟩,
    ⟨.l 17, .p .mv, [.v 7], none⟩,
    ⟨.l 18, .p (.ixa 1), [.l 16, .l 17], none⟩,
    ⟨.l 19, .r (.ld false 1), [.l 18], none⟩,
    ⟨.v 20, .l (.cal 65), [.l 15, .l 19], none⟩])
  (.ite (.v 20)
    (.seq
    (.reg [⟨.v 4, .p .mv, [.k (.m (.nl 4))], none⟩,
      ⟨.v 5, .p .mv, [.k (.m (.b true))], none⟩])
    .ret)
    .skip))
  (.seq
  (.reg [⟨.l 21, .p .mv, [.v 1], none⟩,
    ⟨.l 22, .p .mv, [.v 0], none⟩,
    ⟨.l 23, .p .mv, [.v 7], none⟩,
    ⟨.l 24, .p (.ixa 1), [.l 22, .l 23], none⟩,
    ⟨.l 25, .r (.ld false 1), [.l 24], none⟩,
    ⟨.l 26, .p (.un .neg), [.l 25], none⟩,
    ⟨.l 27, .l (.cal 65), [.l 21, .l 26], none⟩,
    ⟨.v 28, .p (.un .not), [.l 27], none⟩])
  (.ite (.v 28)
    (.reg [⟨.l 29, .p .mv, [.v 6], none⟩,
      ⟨.l 30, .p .mv, [.v 0], none⟩,
      ⟨.l 31, .p .mv, [.v 7], none⟩,
      ⟨.l 32, .p (.ixa 1), [.l 30, .l 31], none⟩,
      ⟨.l 33, .r (.ld false 1), [.l 32], none⟩,
      ⟨.l 34, .p (.bsl 1 [.m (.i .i64 0)] 1 [0]), [.l 33], none⟩,
      ⟨.l 35, .l (.app 3 1 8), [.l 29, .l 34], none⟩,
      ⟨.v 6, .p .mv, [.l 35], none⟩])
    .skip))))
  (.reg [⟨.l 13, .p .mv, [.v 7], none⟩,
    ⟨.l 14, .p (.bin .add), [.l 13, .k (.m (.i .i64 1))], none⟩,
    ⟨.v 7, .p .mv, [.l 14], none⟩])))
def c47_L0 : C := .loop [4, 5, 12, 20, 28] c47_B0
def c47 : F := ⟨2, [.t 4, .t 5],
  (.seq
  (.reg [⟨.v 4, .p .mv, [.k (.m (.nl 4))], none⟩,
    ⟨.v 5, .p .mv, [.k (.m (.b false))], none⟩])
  (.seq
  (.reg [⟨.l 8, .p (.bsl 1 [.m (.i .i64 0)] 0 []), [], none⟩,
    ⟨.v 6, .p .mv, [.l 8], none⟩])
  (.seq
  (.seq
  (.reg [⟨.v 7, .p .mv, [.k (.m (.i .i64 0))], none⟩])
  (.blk 0
  c47_L0))
  (.seq
  (.reg [⟨.l 36, .p .mv, [.v 6], none⟩,
    ⟨.v 4, .p .mv, [.l 36], none⟩,
    ⟨.v 5, .p .mv, [.k (.m (.b false))], none⟩])
  .ret))))⟩

/- (*cellular/formula.propagation).set -/
def c48 : F := ⟨2, [.t 4],
  (.seq
  (.reg [⟨.v 4, .p .mv, [.k (.m (.b false))], none⟩])
  (.seq
  (.seq
  (.reg [⟨.l 5, .p .mv, [.v 0], none⟩,
    ⟨.l 6, .p .nck, [.l 5], none⟩,
    ⟨.l 7, .p (.fad 2), [.l 6], none⟩,
    ⟨.l 8, .r (.ld false 1), [.l 7], none⟩,
    ⟨.l 9, .p .mv, [.v 1], none⟩,
    ⟨.l 10, .p (.un .neg), [.l 9], none⟩,
    ⟨.v 11, .r (.lkp ⟨false, [1]⟩ [.m (.b false)] false false), [.l 8, .l 10], none⟩])
  (.ite (.v 11)
    (.seq
    (.reg [⟨.v 4, .p .mv, [.k (.m (.b false))], none⟩])
    .ret)
    .skip))
  (.seq
  (.seq
  (.reg [⟨.l 12, .p .mv, [.v 0], none⟩,
    ⟨.l 13, .p .nck, [.l 12], none⟩,
    ⟨.l 14, .p (.fad 2), [.l 13], none⟩,
    ⟨.l 15, .r (.ld false 1), [.l 14], none⟩,
    ⟨.l 16, .p .mv, [.v 1], none⟩,
    ⟨.l 17, .r (.lkp ⟨false, [1]⟩ [.m (.b false)] false false), [.l 15, .l 16], none⟩,
    ⟨.v 18, .p (.un .not), [.l 17], none⟩])
  (.ite (.v 18)
    (.seq
    (.reg [⟨.l 19, .p .mv, [.v 0], none⟩,
      ⟨.l 20, .p .nck, [.l 19], none⟩,
      ⟨.l 21, .p (.fad 2), [.l 20], none⟩,
      ⟨.l 22, .r (.ld false 1), [.l 21], none⟩,
      ⟨.l 23, .p .mv, [.v 1], none⟩,
      ⟨.no, .l (.mup ⟨false, [1]⟩), [.l 22, .l 23, .k (.m (.b true))], none⟩])
    (.reg [⟨.l 24, .p .mv, [.v 0], none⟩,
      ⟨.l 25, .p .mv, [.v 0], none⟩,
      ⟨.l 26, .p .nck, [.l 25], none⟩,
      ⟨.l 27, .p (.fad 3), [.l 26], none⟩,
      ⟨.l 28, .r (.ld false 1), [.l 27], none⟩,
      ⟨.l 29, .p .mv, [.v 1], none⟩,
      ⟨.l 30, .p (.bsl 1 [.m (.i .i64 0)] 1 [0]), [.l 29], none⟩,
      ⟨.l 31, .l (.app 3 1 8), [.l 28, .l 30], none⟩,
      ⟨.l 32, .p .nck, [.l 24], none⟩,
      ⟨.l 33, .p (.fad 3), [.l 32], none⟩,
      ⟨.no, .l (.st 1), [.l 33, .l 31], none⟩]))
    .skip))
  (.seq
  (.reg [⟨.v 4, .p .mv, [.k (.m (.b true))], none⟩])
  .ret))))⟩

/- (*cellular/formula.propagation).look -/
def c50_B0 : C :=
  (.seq
  (.reg [⟨.v 12, .p (.bin .lss), [.v 11, .v 10], none⟩])
  (.seq
  (.ite (.v 12)
    .skip
    (.ex 0))
  (.seq
  (.blk 1
  (.seq
  (.reg [⟨.l 13, .p (.ixa 1), [.v 9, .v 11], none⟩,
    ⟨.l 14, .r (.ld false 1), [.l 13], none⟩,
    ⟨.v 8, .p .mv, [.l 14], none⟩])
  (.blk 2
  (.seq
  (.reg [⟨.l 16, .p .mv, [.v 0], none⟩,
    ⟨.l 17, .p .nck, [.l 16], none⟩,
    ⟨.l 18, .p (.fad 2), [.l 17], none⟩,
    ⟨.l 19, .r (.ld false 1), [.l 18], none⟩,
    ⟨.l 20, .p .mv, [.v 8], none⟩,
    ⟨.l 21, .r (.lkp ⟨false, [1]⟩ [.m (.b false)] false false), [.l 19, .l 20], none⟩,
    ⟨.v 15, .p .mv, [.l 21], none⟩])
  (.ite (.v 15)
    (.seq
    (.reg [⟨.v 4, .p .mv, [.k (.m (.b true))], none⟩])
    .ret)
    (.seq
    (.reg [⟨.l 23, .p .mv, [.v 0], none⟩,
      ⟨.l 24, .p .nck, [.l 23], none⟩,
      ⟨.l 25, .p (.fad 2), [.l 24], none⟩,
      ⟨.l 26, .r (.ld false 1), [.l 25], none⟩,
      ⟨.l 27, .p .mv, [.v 8], none⟩,
      ⟨.l 28, .p (.un .neg), [.l 27], none⟩,
      ⟨.l 29, .r (.lkp ⟨false, [1]⟩ [.m (.b false)] false false), [.l 26, .l 28], none⟩,
      ⟨.l 30, .p (.un .not), [.l 29], none⟩,
      ⟨.v 22, .p .mv, [.l 30], none⟩])
    (.ite (.v 22)
      (.seq
      (.reg [⟨.l 31, .p .mv, [.v 8], none⟩,
        ⟨.v 5, .p .mv, [.l 31], none⟩])
      (.reg [⟨.l 32, .p .mv, [.v 6], none⟩,
        ⟨.l 33, .p (.bin .add), [.l 32, .k (.m (.i .i64 1))], none⟩,
        ⟨.v 6, .p .mv, [.l 33], none⟩]))
      .skip)))))))
  (.reg [⟨.l 34, .p (.bin .add), [.v 11, .k (.m (.i .i64 1))], none⟩,
    ⟨.v 11, .p .mv, [.l 34], none⟩]))))
def c50_L0 : C := .loop [1, 4, 8, 12, 15, 22] c50_B0
def c50 : F := ⟨2, [.t 4],
  (.seq
  (.reg [⟨.v 4, .p .mv, [.k (.m (.b false))], none⟩])
  (.seq
  (.reg [⟨.v 5, .p .mv, [.k (.m (.i .i64 0))], none⟩,
    ⟨.v 6, .p .mv, [.k (.m (.i .i64 0))], none⟩])
  (.seq
  (.seq
  (.reg [⟨.v 9, .p .mv, [.v 1], none⟩,
    ⟨.v 10, .p (.len false), [.v 9], none⟩,
    ⟨.v 11, .p .mv, [.k (.m (.i .i64 0))], none⟩])
  (.blk 0
  c50_L0))
  (.seq
  (.reg [⟨.l 35, .p .mv, [.v 6], none⟩,
    ⟨.l 36, .p (.bin .gtr), [.l 35, .k (.m (.i .i64 1))], none⟩,
    ⟨.l 37, .p .mv, [.l 36], none⟩,
    ⟨.l 38, .p .mv, [.v 6], some (.l 37, false)⟩,
    ⟨.l 39, .p (.bin .eql), [.l 38, .k (.m (.i .i64 1))], some (.l 37, false)⟩,
    ⟨.l 40, .p .mv, [.l 39], some (.l 37, false)⟩,
    ⟨.l 41, .p .mv, [.v 0], some (.l 40, true)⟩,
    ⟨.l 42, .p .mv, [.v 5], some (.l 40, true)⟩,
    ⟨.l 43, .l (.cal 48), [.l 41, .l 42], some (.l 40, true)⟩,
    ⟨.l 44, .p .pick, [.l 40, .l 43, .k (.m (.b false))], some (.l 37, false)⟩,
    ⟨.l 45, .p .pick, [.l 37, .k (.m (.b true)), .l 44], none⟩,
    ⟨.v 4, .p .mv, [.l 45], none⟩])
  .ret))))⟩

/- strconv.Itoa -/
def c51 : F := ⟨1, [.t 2],
  (.seq
  (.reg [⟨.v 2, .p .mv, [.k (.m (.s []))], none⟩])
  (.seq
  (.reg [⟨.l 3, .p .mv, [.v 0], none⟩,
    ⟨.l 4, .l (.cal 68), [.l 3], none⟩,
    ⟨.v 2, .p .mv, [.l 4], none⟩])
  .ret))⟩

/- strconv.AppendInt -/
def c52 : F := ⟨3, [.t 6],
  (.seq
  (.reg [⟨.v 6, .p .mv, [.k (.m (.nl 4))], none⟩])
  (.seq
  (.reg [⟨.l 7, .p .mv, [.v 0], none⟩,
    ⟨.l 8, .p .mv, [.v 1], none⟩,
    ⟨.l 9, .p .mv, [.v 2], none⟩,
    ⟨.l 10, .l (.cal 69), [.l 7, .l 8, .l 9], none⟩,
    ⟨.v 6, .p .mv, [.l 10], none⟩])
  .ret))⟩

/- cellular/formula.words -/
def c54_A0 : C :=
  (.reg [⟨.v 5, .p .mv, [.v 13], none⟩])
def c54_R0 : C :=
  (.blk 3
  (.seq
  (.reg [⟨.l 14, .p .mv, [.v 5], none⟩,
    ⟨.v 15, .p (.bin .neq), [.l 14, .k (.m (.s []))], none⟩])
  (.ite (.v 15)
    (.reg [⟨.l 16, .r (.ld false 1), [.v 3], none⟩,
      ⟨.l 17, .p .mv, [.v 5], none⟩,
      ⟨.l 18, .p (.bsl 1 [.m (.s [])] 1 [0]), [.l 17], none⟩,
      ⟨.l 19, .l (.app 9 1 16), [.l 16, .l 18], none⟩,
      ⟨.no, .l (.st 1), [.v 3, .l 19], none⟩])
    .skip)))
def c54_A1 : C :=
  (.reg [⟨.v 4, .p .mv, [.v 8], none⟩])
def c54_R1 : C :=
  (.blk 1
  (.seq
  (.seq
  (.reg [⟨.l 9, .p .mv, [.v 4], none⟩,
    ⟨.v 10, .l (.cal 71), [.l 9, .k (.m (.s [99]))], none⟩])
  (.ite (.v 10)
    (.ex 1)
    .skip))
  (.seq
  (.reg [⟨.l 11, .p .mv, [.v 4], none⟩,
    ⟨.v 12, .l (.cal 70), [.l 11, .k (.m (.s [32]))], none⟩])
  (.blk 2
  (.rng (.v 12) [4, 8, 10, 12] [13] c54_A0 c54_R0)))))
def c54 : F := ⟨1, [.t 2],
  (.seq
  (.reg [⟨.v 2, .p .mv, [.k (.m (.nl 4))], none⟩])
  (.seq
  (.reg [⟨.v 3, .l (.als 71 1 1 [.m (.nl 4)]), [], none⟩])
  (.seq
  (.seq
  (.reg [⟨.l 6, .p .mv, [.v 0], none⟩,
    ⟨.v 7, .l (.cal 70), [.l 6, .k (.m (.s [10]))], none⟩])
  (.blk 0
  (.rng (.v 7) [0, 2, 7] [8] c54_A1 c54_R1)))
  (.seq
  (.reg [⟨.l 20, .r (.ld false 1), [.v 3], none⟩,
    ⟨.v 2, .p .mv, [.l 20], none⟩])
  .ret))))⟩

/- cellular/formula.number -/
def c55_B0 : C :=
  (.seq
  (.reg [⟨.v 15, .p (.bin .lss), [.v 14, .v 13], none⟩])
  (.seq
  (.ite (.v 15)
    .skip
    (.ex 0))
  (.seq
  (.blk 1
  (.seq
  (.reg [⟨.l 16, .p (.ixa 1), [.v 12, .v 14], none⟩,
    ⟨.l 17, .r (.ld false 1), [.l 16], none⟩,
    ⟨.v 6, .p .mv, [.l 17], none⟩])
  (.seq
  (.reg [⟨.l 18, .p .mv, [.v 6], none⟩,
    ⟨.l 19, .p (.bin .lss), [.l 18, .k (.m (.i .u8 48))], none⟩,
    ⟨.l 20, .p .mv, [.l 19], none⟩,
    ⟨.l 21, .p .mv, [.v 6], some (.l 20, false)⟩,
    ⟨.l 22, .p (.bin .gtr), [.l 21, .k (.m (.i .u8 57))], some (.l 20, false)⟩,
    ⟨.v 23, .p .pick, [.l 20, .k (.m (.b true)), .l 22], none⟩])
  (.ite (.v 23)
    (.seq
    (.reg [⟨.v 2, .p .mv, [.k (.m (.i .i64 0))], none⟩,
      ⟨.v 3, .p .mv, [.k (.m (.b false))], none⟩])
    .ret)
    .skip))))
  (.reg [⟨.l 24, .p (.bin .add), [.v 14, .k (.m (.i .i64 1))], none⟩,
    ⟨.v 14, .p .mv, [.l 24], none⟩]))))
def c55_L0 : C := .loop [2, 3, 6, 15, 23] c55_B0
def c55 : F := ⟨1, [.t 2, .t 3],
  (.seq
  (.reg [⟨.v 2, .p .mv, [.k (.m (.i .i64 0))], none⟩,
    ⟨.v 3, .p .mv, [.k (.m (.b false))], none⟩])
  (.seq
  (.reg [⟨.l 9, .p .mv, [.v 0], none⟩,
    ⟨.l 10, .l (.cal 72), [.l 9, .k (.m (.s [45]))], none⟩,
    ⟨.v 4, .p .mv, [.l 10], none⟩])
  (.seq
  (.seq
  (.reg [⟨.l 11, .p .mv, [.v 4], none⟩,
    ⟨.v 12, .p .s2b, [.l 11], none⟩,
    ⟨.v 13, .p (.len false), [.v 12], none⟩,
    ⟨.v 14, .p .mv, [.k (.m (.i .i64 0))], none⟩])
  (.blk 0
  c55_L0))
  (.seq
  (.seq
  (.reg [⟨.l 25, .p .mv, [.v 4], none⟩,
    ⟨.l 26, .p (.len true), [.l 25], none⟩,
    ⟨.l 27, .p (.bin .lss), [.l 26, .k (.m (.i .i64 1))], none⟩,
    ⟨.l 28, .p .mv, [.l 27], none⟩,
    ⟨.l 29, .p .mv, [.v 4], some (.l 28, false)⟩,
    ⟨.l 30, .p (.len true), [.l 29], some (.l 28, false)⟩,
    ⟨.l 31, .p (.bin .gtr), [.l 30, .k (.m (.i .i64 9))], some (.l 28, false)⟩,
    ⟨.l 32, .p .pick, [.l 28, .k (.m (.b true)), .l 31], none⟩,
    ⟨.l 33, .p .mv, [.l 32], none⟩,
    ⟨.l 34, .p .mv, [.v 4], some (.l 33, false)⟩,
    ⟨.l 35, .p .ixs, [.l 34, .k (.m (.i .i64 0))], some (.l 33, false)⟩,
    ⟨.l 36, .p (.bin .eql), [.l 35, .k (.m (.i .u8 48))], some (.l 33, false)⟩,
    ⟨.l 37, .p .mv, [.l 36], some (.l 33, false)⟩,
    ⟨.l 38, .p .mv, [.v 0], some (.l 37, true)⟩,
    ⟨.l 39, .p (.bin .neq), [.l 38, .k (.m (.s [48]))], some (.l 37, true)⟩,
    ⟨.l 40, .p .pick, [.l 37, .l 39, .k (.m (.b false))], some (.l 33, false)⟩,
    ⟨.v 41, .p .pick, [.l 33, .k (.m (.b true)), .l 40], none⟩])
  (.ite (.v 41)
    (.seq
    (.reg [⟨.v 2, .p .mv, [.k (.m (.i .i64 0))], none⟩,
      ⟨.v 3, .p .mv, [.k (.m (.b false))], none⟩])
    .ret)
    .skip))
  (.seq
  (.reg [⟨.l 43, .p .mv, [.v 0], none⟩,
    ⟨.l 44, .l (.cal 73), [.l 43], none⟩,
    ⟨.l 42, .p .mv, [.l 44], none⟩,
    ⟨.l 45, .p (.ext 0), [.l 42], none⟩,
    ⟨.l 46, .p (.ext 1), [.l 42], none⟩,
    ⟨.v 7, .p .mv, [.l 45], none⟩,
    ⟨.v 8, .p .mv, [.l 46], none⟩])
  (.seq
  (.reg [⟨.l 47, .p .mv, [.v 7], none⟩,
    ⟨.l 48, .p .mv, [.v 8], none⟩,
    ⟨.l 49, .p (.eqn false 3), [.l 48], none⟩,
    ⟨.v 2, .p .mv, [.l 47], none⟩,
    ⟨.v 3, .p .mv, [.l 49], none⟩])
  .ret))))))⟩

/- slices.Index[[]int,int] -/
def c56_B0 : C :=
  (.seq
  (.reg [⟨.v 9, .p (.bin .lss), [.v 8, .v 7], none⟩])
  (.seq
  (.ite (.v 9)
    .skip
    (.ex 0))
  (.seq
  (.blk 1
  (.seq
  (.reg [⟨.l 10, .p .mv, [.v 8], none⟩,
    ⟨.v 5, .p .mv, [.l 10], none⟩])
  (.seq
  (.reg [⟨.l 11, .p .mv, [.v 1], none⟩,
    ⟨.l 12, .p .mv, [.v 0], none⟩,
    ⟨.l 13, .p .mv, [.v 5], none⟩,
    ⟨.l 14, .p (.ixa 1), [.l 12, .l 13], none⟩,
    ⟨.l 15, .r (.ld false 1), [.l 14], none⟩,
    ⟨.v 16, .p (.bin .eql), [.l 11, .l 15], none⟩])
  (.ite (.v 16)
    (.seq
    (.reg [⟨.l 17, .p .mv, [.v 5], none⟩,
      ⟨.v 4, .p .mv, [.l 17], none⟩])
    .ret)
    .skip))))
  (.reg [⟨.l 18, .p (.bin .add), [.v 8, .k (.m (.i .i64 1))], none⟩,
    ⟨.v 8, .p .mv, [.l 18], none⟩]))))
def c56_L0 : C := .loop [4, 5, 9, 16] c56_B0
def c56 : F := ⟨2, [.t 4],
  (.seq
  (.reg [⟨.v 4, .p .mv, [.k (.m (.i .i64 0))], none⟩])
  (.seq
  (.seq
  (.reg [⟨.l 6, .p .mv, [.v 0], none⟩,
    ⟨.v 7, .p (.len false), [.l 6], none⟩,
    ⟨.v 8, .p .mv, [.k (.m (.i .i64 0))], none⟩])
  (.blk 0
  c56_L0))
  (.seq
  (.reg [⟨.v 4, .p .mv, [.k (.m (.i .i64 (-1)))], none⟩])
  .ret)))⟩

/- slices.IndexFunc[[]int,int] -/
def c59_B0 : C :=
  (.seq
  (.reg [⟨.v 9, .p (.bin .lss), [.v 8, .v 7], none⟩])
  (.seq
  (.ite (.v 9)
    .skip
    (.ex 0))
  (.seq
  (.blk 1
  (.seq
  (.reg [⟨.l 10, .p .mv, [.v 8], none⟩,
    ⟨.v 5, .p .mv, [.l 10], none⟩])
  (.seq
  (.reg [⟨.l 11, .p .mv, [.v 1], none⟩,
    ⟨.l 12, .p .mv, [.v 0], none⟩,
    ⟨.l 13, .p .mv, [.v 5], none⟩,
    ⟨.l 14, .p (.ixa 1), [.l 12, .l 13], none⟩,
    ⟨.l 15, .r (.ld false 1), [.l 14], none⟩,
    ⟨.v 16, .l .cav, [.l 11, .l 15], none⟩])
  (.ite (.v 16)
    (.seq
    (.reg [⟨.l 17, .p .mv, [.v 5], none⟩,
      ⟨.v 4, .p .mv, [.l 17], none⟩])
    .ret)
    .skip))))
  (.reg [⟨.l 18, .p (.bin .add), [.v 8, .k (.m (.i .i64 1))], none⟩,
    ⟨.v 8, .p .mv, [.l 18], none⟩]))))
def c59_L0 : C := .loop [4, 5, 9, 16] c59_B0
def c59 : F := ⟨2, [.t 4],
  (.seq
  (.reg [⟨.v 4, .p .mv, [.k (.m (.i .i64 0))], none⟩])
  (.seq
  (.seq
  (.reg [⟨.l 6, .p .mv, [.v 0], none⟩,
    ⟨.v 7, .p (.len false), [.l 6], none⟩,
    ⟨.v 8, .p .mv, [.k (.m (.i .i64 0))], none⟩])
  (.blk 0
  c59_L0))
  (.seq
  (.reg [⟨.v 4, .p .mv, [.k (.m (.i .i64 (-1)))], none⟩])
  .ret)))⟩

/- cmp.Or[int] -/
def c62_B0 : C :=
  (.seq
  (.reg [⟨.v 9, .p (.bin .lss), [.v 8, .v 7], none⟩])
  (.seq
  (.ite (.v 9)
    .skip
    (.ex 0))
  (.seq
  (.blk 1
  (.seq
  (.reg [⟨.l 10, .p (.ixa 1), [.v 6, .v 8], none⟩,
    ⟨.l 11, .r (.ld false 1), [.l 10], none⟩,
    ⟨.v 5, .p .mv, [.l 11], none⟩])
  (.seq
  (.reg [⟨.l 12, .p .mv, [.v 5], none⟩,
    ⟨.l 13, .p .mv, [.v 3], none⟩,
    ⟨.v 14, .p (.bin .neq), [.l 12, .l 13], none⟩])
  (.ite (.v 14)
    (.seq
    (.reg [⟨.l 15, .p .mv, [.v 5], none⟩,
      ⟨.v 2, .p .mv, [.l 15], none⟩])
    .ret)
    .skip))))
  (.reg [⟨.l 16, .p (.bin .add), [.v 8, .k (.m (.i .i64 1))], none⟩,
    ⟨.v 8, .p .mv, [.l 16], none⟩]))))
def c62_L0 : C := .loop [0, 2, 5, 9, 14] c62_B0
def c62 : F := ⟨1, [.t 2],
  (.seq
  (.reg [⟨.v 2, .p .mv, [.k (.m (.i .i64 0))], none⟩])
  (.seq
  (.reg [⟨.v 3, .p .mv, [.k (.m (.i .i64 0))], none⟩])
  (.seq
  (.seq
  (.reg [⟨.v 6, .p .mv, [.v 0], none⟩,
    ⟨.v 7, .p (.len false), [.v 6], none⟩,
    ⟨.v 8, .p .mv, [.k (.m (.i .i64 0))], none⟩])
  (.blk 0
  c62_L0))
  (.seq
  (.reg [⟨.l 17, .p .mv, [.v 3], none⟩,
    ⟨.v 2, .p .mv, [.l 17], none⟩])
  .ret))))⟩

/- cmp.Compare[int] -/
def c63 : F := ⟨2, [.t 4],
  (.seq
  (.reg [⟨.v 4, .p .mv, [.k (.m (.i .i64 0))], none⟩])
  (.seq
  (.reg [⟨.l 7, .p .mv, [.v 0], none⟩,
    ⟨.l 8, .l (.cal 84), [.l 7], none⟩,
    ⟨.v 5, .p .mv, [.l 8], none⟩])
  (.seq
  (.reg [⟨.l 9, .p .mv, [.v 1], none⟩,
    ⟨.l 10, .l (.cal 84), [.l 9], none⟩,
    ⟨.v 6, .p .mv, [.l 10], none⟩])
  (.seq
  (.seq
  (.reg [⟨.v 11, .p .mv, [.v 5], none⟩])
  (.ite (.v 11)
    (.seq
    (.seq
    (.reg [⟨.v 12, .p .mv, [.v 6], none⟩])
    (.ite (.v 12)
      (.seq
      (.reg [⟨.v 4, .p .mv, [.k (.m (.i .i64 0))], none⟩])
      .ret)
      .skip))
    (.seq
    (.reg [⟨.v 4, .p .mv, [.k (.m (.i .i64 (-1)))], none⟩])
    .ret))
    .skip))
  (.seq
  (.seq
  (.reg [⟨.v 13, .p .mv, [.v 6], none⟩])
  (.ite (.v 13)
    (.seq
    (.reg [⟨.v 4, .p .mv, [.k (.m (.i .i64 1))], none⟩])
    .ret)
    .skip))
  (.seq
  (.seq
  (.reg [⟨.l 14, .p .mv, [.v 0], none⟩,
    ⟨.l 15, .p .mv, [.v 1], none⟩,
    ⟨.v 16, .p (.bin .lss), [.l 14, .l 15], none⟩])
  (.ite (.v 16)
    (.seq
    (.reg [⟨.v 4, .p .mv, [.k (.m (.i .i64 (-1)))], none⟩])
    .ret)
    .skip))
  (.seq
  (.seq
  (.reg [⟨.l 17, .p .mv, [.v 0], none⟩,
    ⟨.l 18, .p .mv, [.v 1], none⟩,
    ⟨.v 19, .p (.bin .gtr), [.l 17, .l 18], none⟩])
  (.ite (.v 19)
    (.seq
    (.reg [⟨.v 4, .p .mv, [.k (.m (.i .i64 1))], none⟩])
    .ret)
    .skip))
  (.seq
  (.reg [⟨.v 4, .p .mv, [.k (.m (.i .i64 0))], none⟩])
  .ret))))))))⟩

/- cellular/cellularref40.has -/
def c65_B0 : C :=
  (.seq
  (.seq
  (.reg [⟨.l 6, .p .mv, [.v 5], none⟩,
    ⟨.l 7, .p .mv, [.v 0], none⟩,
    ⟨.l 8, .p (.len false), [.l 7], none⟩,
    ⟨.v 9, .p (.bin .lss), [.l 6, .l 8], none⟩])
  (.ite (.v 9)
    .skip
    (.ex 0)))
  (.seq
  (.blk 1
  (.seq
  (.reg [⟨.l 12, .p .mv, [.v 0], none⟩,
    ⟨.l 13, .p .mv, [.v 5], none⟩,
    ⟨.l 14, .p (.ixa 1), [.l 12, .l 13], none⟩,
    ⟨.l 15, .r (.ld false 1), [.l 14], none⟩,
    ⟨.l 16, .p .mv, [.v 1], none⟩,
    ⟨.v 17, .p (.bin .eql), [.l 15, .l 16], none⟩])
  (.ite (.v 17)
    (.seq
    (.reg [⟨.v 4, .p .mv, [.k (.m (.b true))], none⟩])
    .ret)
    .skip)))
  (.reg [⟨.l 10, .p .mv, [.v 5], none⟩,
    ⟨.l 11, .p (.bin .add), [.l 10, .k (.m (.i .i64 1))], none⟩,
    ⟨.v 5, .p .mv, [.l 11], none⟩])))
def c65_L0 : C := .loop [4, 9, 17] c65_B0
def c65 : F := ⟨2, [.t 4],
  (.seq
  (.reg [⟨.v 4, .p .mv, [.k (.m (.b false))], none⟩])
  (.seq
  (.seq
  (.reg [⟨.v 5, .p .mv, [.k (.m (.i .i64 0))], none⟩])
  (.blk 0
  c65_L0))
  (.seq
  (.reg [⟨.v 4, .p .mv, [.k (.m (.b false))], none⟩])
  .ret)))⟩

/- cellular/cellularref40.before -/
def c66 : F := ⟨2, [.t 4],
  (.seq
  (.reg [⟨.v 4, .p .mv, [.k (.m (.b false))], none⟩])
  (.seq
  (.reg [⟨.l 7, .p .mv, [.v 0], none⟩,
    ⟨.l 8, .p .mv, [.v 0], none⟩,
    ⟨.l 9, .p (.un .neg), [.l 8], none⟩,
    ⟨.l 10, .p (.mm true), [.l 7, .l 9], none⟩,
    ⟨.l 11, .p .mv, [.v 1], none⟩,
    ⟨.l 12, .p .mv, [.v 1], none⟩,
    ⟨.l 13, .p (.un .neg), [.l 12], none⟩,
    ⟨.l 14, .p (.mm true), [.l 11, .l 13], none⟩,
    ⟨.v 5, .p .mv, [.l 10], none⟩,
    ⟨.v 6, .p .mv, [.l 14], none⟩])
  (.seq
  (.reg [⟨.l 15, .p .mv, [.v 5], none⟩,
    ⟨.l 16, .p .mv, [.v 6], none⟩,
    ⟨.l 17, .p (.bin .lss), [.l 15, .l 16], none⟩,
    ⟨.l 18, .p .mv, [.l 17], none⟩,
    ⟨.l 19, .p .mv, [.v 5], some (.l 18, false)⟩,
    ⟨.l 20, .p .mv, [.v 6], some (.l 18, false)⟩,
    ⟨.l 21, .p (.bin .eql), [.l 19, .l 20], some (.l 18, false)⟩,
    ⟨.l 22, .p .mv, [.l 21], some (.l 18, false)⟩,
    ⟨.l 23, .p .mv, [.v 0], some (.l 22, true)⟩,
    ⟨.l 24, .p .mv, [.v 1], some (.l 22, true)⟩,
    ⟨.l 25, .p (.bin .lss), [.l 23, .l 24], some (.l 22, true)⟩,
    ⟨.l 26, .p .pick, [.l 22, .l 25, .k (.m (.b false))], some (.l 18, false)⟩,
    ⟨.l 27, .p .pick, [.l 18, .k (.m (.b true)), .l 26], none⟩,
    ⟨.v 4, .p .mv, [.l 27], none⟩])
  .ret)))⟩

/- internal/strconv.Itoa -/
def c68 : F := ⟨1, [.t 2],
  (.seq
  (.reg [⟨.v 2, .p .mv, [.k (.m (.s []))], none⟩])
  (.seq
  (.reg [⟨.l 3, .p .mv, [.v 0], none⟩,
    ⟨.l 4, .l (.cal 102), [.l 3, .k (.m (.i .i64 10))], none⟩,
    ⟨.v 2, .p .mv, [.l 4], none⟩])
  .ret))⟩

/- internal/strconv.AppendInt -/
def c69 : F := ⟨3, [.t 6],
  (.seq
  (.reg [⟨.v 6, .p .mv, [.k (.m (.nl 4))], none⟩])
  (.seq
  (.reg [⟨.l 8, .p .mv, [.v 1], none⟩,
    ⟨.l 9, .p (.cv .u64), [.l 8], none⟩,
    ⟨.v 7, .p .mv, [.l 9], none⟩])
  (.seq
  (.seq
  (.reg [⟨.l 10, .p .mv, [.v 1], none⟩,
    ⟨.v 11, .p (.bin .lss), [.l 10, .k (.m (.i .i64 0))], none⟩])
  (.ite (.v 11)
    (.seq
    (.reg [⟨.l 12, .p .mv, [.v 0], none⟩,
      ⟨.l 13, .p (.bsl 1 [.m (.i .u8 0)] 1 [0]), [.k (.m (.i .u8 45))], none⟩,
      ⟨.l 14, .l (.app 5 1 1), [.l 12, .l 13], none⟩,
      ⟨.v 0, .p .mv, [.l 14], none⟩])
    (.reg [⟨.l 15, .p .mv, [.v 7], none⟩,
      ⟨.l 16, .p (.un .neg), [.l 15], none⟩,
      ⟨.v 7, .p .mv, [.l 16], none⟩]))
    .skip))
  (.seq
  (.reg [⟨.l 17, .p .mv, [.v 0], none⟩,
    ⟨.l 18, .p .mv, [.v 7], none⟩,
    ⟨.l 19, .p .mv, [.v 2], none⟩,
    ⟨.l 20, .l (.cal 103), [.l 17, .l 18, .l 19], none⟩,
    ⟨.v 6, .p .mv, [.l 20], none⟩])
  .ret))))⟩

/- strings.SplitSeq -/
def c70 : F := ⟨2, [.t 4],
  (.seq
  (.reg [⟨.v 4, .p .mv, [.k (.m (.nl 2))], none⟩])
  (.seq
  (.reg [⟨.l 5, .p .mv, [.v 0], none⟩,
    ⟨.l 6, .p .mv, [.v 1], none⟩,
    ⟨.l 7, .l (.cal 104), [.l 5, .l 6, .k (.m (.i .i64 0))], none⟩,
    ⟨.v 4, .p .mv, [.l 7], none⟩])
  .ret))⟩

/- strings.HasPrefix -/
def c71 : F := ⟨2, [.t 4],
  (.seq
  (.reg [⟨.v 4, .p .mv, [.k (.m (.b false))], none⟩])
  (.seq
  (.reg [⟨.l 5, .p .mv, [.v 0], none⟩,
    ⟨.l 6, .p .mv, [.v 1], none⟩,
    ⟨.l 7, .l (.cal 105), [.l 5, .l 6], none⟩,
    ⟨.v 4, .p .mv, [.l 7], none⟩])
  .ret))⟩

/- strings.TrimPrefix -/
def c72 : F := ⟨2, [.t 4],
  (.seq
  (.reg [⟨.v 4, .p .mv, [.k (.m (.s []))], none⟩])
  (.seq
  (.reg [⟨.l 5, .p .mv, [.v 0], none⟩,
    ⟨.l 6, .p .mv, [.v 1], none⟩,
    ⟨.l 7, .l (.cal 106), [.l 5, .l 6], none⟩,
    ⟨.v 4, .p .mv, [.l 7], none⟩])
  .ret))⟩

/- strconv.Atoi -/
def c73 : F := ⟨1, [.t 2, .t 3],
  (.seq
  (.reg [⟨.v 2, .p .mv, [.k (.m (.i .i64 0))], none⟩,
    ⟨.v 3, .p .mv, [.k (.m (.nl 3))], none⟩])
  (.seq
  (.reg [⟨.l 7, .p .mv, [.v 0], none⟩,
    ⟨.l 8, .l (.cal 107), [.l 7], none⟩,
    ⟨.l 6, .p .mv, [.l 8], none⟩,
    ⟨.l 9, .p (.ext 0), [.l 6], none⟩,
    ⟨.l 10, .p (.ext 1), [.l 6], none⟩,
    ⟨.v 4, .p .mv, [.l 9], none⟩,
    ⟨.v 5, .p .mv, [.l 10], none⟩])
  (.seq
  (.seq
  (.reg [⟨.l 11, .p .mv, [.v 5], none⟩,
    ⟨.v 12, .p (.eqn true 3), [.l 11], none⟩])
  (.ite (.v 12)
    (.seq
    (.reg [⟨.l 13, .p .mv, [.v 4], none⟩,
      ⟨.l 14, .p .mv, [.v 0], none⟩,
      ⟨.l 15, .p .mv, [.v 5], none⟩,
      ⟨.l 16, .l (.cal 108), [.k (.m (.s [65, 116, 111, 105])), .l 14, .k (.m (.i .i64 0)), .k (.m (.i .i64 0)), .l 15], none⟩,
      ⟨.v 2, .p .mv, [.l 13], none⟩,
      ⟨.v 3, .p .mv, [.l 16], none⟩])
    .ret)
    .skip))
  (.seq
  (.reg [⟨.l 17, .p .mv, [.v 4], none⟩,
    ⟨.v 2, .p .mv, [.l 17], none⟩,
    ⟨.v 3, .p .mv, [.k (.m (.nl 3))], none⟩])
  .ret))))⟩

/- math/bits.Len64 -/
def c83 : F := ⟨1, [.t 2],
  (.seq
  (.reg [⟨.v 2, .p .mv, [.k (.m (.i .i64 0))], none⟩])
  (.seq
  (.seq
  (.reg [⟨.l 3, .p .mv, [.v 0], none⟩,
    ⟨.v 4, .p (.bin .geq), [.l 3, .k (.m (.i .u64 4294967296))], none⟩])
  (.ite (.v 4)
    (.seq
    (.reg [⟨.l 5, .p .mv, [.v 0], none⟩,
      ⟨.l 6, .p (.bin .shr), [.l 5, .k (.m (.i .u64 32))], none⟩,
      ⟨.v 0, .p .mv, [.l 6], none⟩])
    (.reg [⟨.v 2, .p .mv, [.k (.m (.i .i64 32))], none⟩]))
    .skip))
  (.seq
  (.seq
  (.reg [⟨.l 7, .p .mv, [.v 0], none⟩,
    ⟨.v 8, .p (.bin .geq), [.l 7, .k (.m (.i .u64 65536))], none⟩])
  (.ite (.v 8)
    (.seq
    (.reg [⟨.l 9, .p .mv, [.v 0], none⟩,
      ⟨.l 10, .p (.bin .shr), [.l 9, .k (.m (.i .u64 16))], none⟩,
      ⟨.v 0, .p .mv, [.l 10], none⟩])
    (.reg [⟨.l 11, .p .mv, [.v 2], none⟩,
      ⟨.l 12, .p (.bin .add), [.l 11, .k (.m (.i .i64 16))], none⟩,
      ⟨.v 2, .p .mv, [.l 12], none⟩]))
    .skip))
  (.seq
  (.seq
  (.reg [⟨.l 13, .p .mv, [.v 0], none⟩,
    ⟨.v 14, .p (.bin .geq), [.l 13, .k (.m (.i .u64 256))], none⟩])
  (.ite (.v 14)
    (.seq
    (.reg [⟨.l 15, .p .mv, [.v 0], none⟩,
      ⟨.l 16, .p (.bin .shr), [.l 15, .k (.m (.i .u64 8))], none⟩,
      ⟨.v 0, .p .mv, [.l 16], none⟩])
    (.reg [⟨.l 17, .p .mv, [.v 2], none⟩,
      ⟨.l 18, .p (.bin .add), [.l 17, .k (.m (.i .i64 8))], none⟩,
      ⟨.v 2, .p .mv, [.l 18], none⟩]))
    .skip))
  (.seq
  (.reg [⟨.l 19, .p .mv, [.v 2], none⟩,
    ⟨.l 20, .p .mv, [.v 0], none⟩,
    ⟨.l 21, .p (.cv .u8), [.l 20], none⟩,
    ⟨.l 22, .p .ixs, [.k (.m (.s [0, 1, 2, 2, 3, 3, 3, 3, 4, 4, 4, 4, 4, 4, 4, 4, 5, 5, 5, 5, 5, 5, 5, 5, 5, 5, 5, 5, 5, 5, 5, 5, 6, 6, 6, 6, 6, 6, 6, 6, 6, 6, 6, 6, 6, 6, 6, 6, 6, 6, 6, 6, 6, 6, 6, 6, 6, 6, 6, 6, 6, 6, 6, 6, 7, 7, 7, 7, 7, 7, 7, 7, 7, 7, 7, 7, 7, 7, 7, 7, 7, 7, 7, 7, 7, 7, 7, 7, 7, 7, 7, 7, 7, 7, 7, 7, 7, 7, 7, 7, 7, 7, 7, 7, 7, 7, 7, 7, 7, 7, 7, 7, 7, 7, 7, 7, 7, 7, 7, 7, 7, 7, 7, 7, 7, 7, 7, 7, 8, 8, 8, 8, 8, 8, 8, 8, 8, 8, 8, 8, 8, 8, 8, 8, 8, 8, 8, 8, 8, 8, 8, 8, 8, 8, 8, 8, 8, 8, 8, 8, 8, 8, 8, 8, 8, 8, 8, 8, 8, 8, 8, 8, 8, 8, 8, 8, 8, 8, 8, 8, 8, 8, 8, 8, 8, 8, 8, 8, 8, 8, 8, 8, 8, 8, 8, 8, 8, 8, 8, 8, 8, 8, 8, 8, 8, 8, 8, 8, 8, 8, 8, 8, 8, 8, 8, 8, 8, 8, 8, 8, 8, 8, 8, 8, 8, 8, 8, 8, 8, 8, 8, 8, 8, 8, 8, 8, 8, 8, 8, 8, 8, 8, 8, 8, 8, 8, 8, 8, 8, 8, 8, 8, 8, 8, 8, 8])), .l 21], none⟩,
    ⟨.l 23, .p (.cv .i64), [.l 22], none⟩,
    ⟨.l 24, .p (.bin .add), [.l 19, .l 23], none⟩,
    ⟨.v 2, .p .mv, [.l 24], none⟩])
  .ret)))))⟩

/- cmp.isNaN[int] -/
def c84 : F := ⟨1, [.t 2],
  (.seq
  (.reg [⟨.v 2, .p .mv, [.k (.m (.b false))], none⟩])
  (.seq
  (.reg [⟨.l 3, .p .mv, [.v 0], none⟩,
    ⟨.l 4, .p .mv, [.v 0], none⟩,
    ⟨.l 5, .p (.bin .neq), [.l 3, .l 4], none⟩,
    ⟨.v 2, .p .mv, [.l 5], none⟩])
  .ret))⟩

/- internal/strconv.FormatInt -/
def c102 : F := ⟨2, [.t 4],
  (.seq
  (.reg [⟨.v 4, .p .mv, [.k (.m (.s []))], none⟩])
  (.seq
  (.seq
  (.reg [⟨.l 10, .p .mv, [.v 1], none⟩,
    ⟨.v 11, .p (.bin .eql), [.l 10, .k (.m (.i .i64 10))], none⟩])
  (.ite (.v 11)
    (.seq
    (.seq
    (.reg [⟨.l 12, .p .mv, [.v 0], none⟩,
      ⟨.l 13, .p (.bin .leq), [.k (.m (.i .i64 0)), .l 12], none⟩,
      ⟨.l 14, .p .mv, [.l 13], none⟩,
      ⟨.l 15, .p .mv, [.v 0], some (.l 14, true)⟩,
      ⟨.l 16, .p (.bin .lss), [.l 15, .k (.m (.i .i64 100))], some (.l 14, true)⟩,
      ⟨.v 17, .p .pick, [.l 14, .l 16, .k (.m (.b false))], none⟩])
    (.ite (.v 17)
      (.seq
      (.reg [⟨.l 18, .p .mv, [.v 0], none⟩,
        ⟨.l 19, .l (.cal 120), [.l 18], none⟩,
        ⟨.v 4, .p .mv, [.l 19], none⟩])
      .ret)
      .skip))
    (.seq
    (.reg [⟨.v 5, .l (.als 129 1 24 [.m (.i .u8 0), .m (.i .u8 0), .m (.i .u8 0), .m (.i .u8 0), .m (.i .u8 0), .m (.i .u8 0), .m (.i .u8 0), .m (.i .u8 0), .m (.i .u8 0), .m (.i .u8 0), .m (.i .u8 0), .m (.i .u8 0), .m (.i .u8 0), .m (.i .u8 0), .m (.i .u8 0), .m (.i .u8 0), .m (.i .u8 0), .m (.i .u8 0), .m (.i .u8 0), .m (.i .u8 0), .m (.i .u8 0), .m (.i .u8 0), .m (.i .u8 0), .m (.i .u8 0)]), [], none⟩])
    (.seq
    (.reg [⟨.l 20, .p .mv, [.v 0], none⟩,
      ⟨.l 21, .p (.cv .u64), [.l 20], none⟩,
      ⟨.v 6, .p .mv, [.l 21], none⟩])
    (.seq
    (.seq
    (.reg [⟨.l 22, .p .mv, [.v 0], none⟩,
      ⟨.v 23, .p (.bin .lss), [.l 22, .k (.m (.i .i64 0))], none⟩])
    (.ite (.v 23)
      (.reg [⟨.l 24, .p .mv, [.v 6], none⟩,
        ⟨.l 25, .p (.un .neg), [.l 24], none⟩,
        ⟨.v 6, .p .mv, [.l 25], none⟩])
      .skip))
    (.seq
    (.reg [⟨.l 26, .p .mv, [.v 6], none⟩,
      ⟨.l 27, .l (.cal 121), [.l 26], none⟩,
      ⟨.v 7, .p .mv, [.l 27], none⟩])
    (.seq
    (.reg [⟨.l 28, .p .mv, [.v 7], none⟩,
      ⟨.l 29, .p (.bin .add), [.k (.m (.i .i64 1)), .l 28], none⟩,
      ⟨.l 30, .r (.slcA 24 1 true true false), [.v 5, .k (.m (.i .i64 1)), .l 29], none⟩,
      ⟨.l 31, .p .mv, [.v 6], none⟩,
      ⟨.l 32, .l (.cal 122), [.l 30, .l 31], none⟩])
    (.seq
    (.seq
    (.reg [⟨.l 33, .p .mv, [.v 0], none⟩,
      ⟨.v 34, .p (.bin .lss), [.l 33, .k (.m (.i .i64 0))], none⟩])
    (.ite (.v 34)
      (.seq
      (.reg [⟨.l 35, .p (.ixaA 24 1), [.v 5, .k (.m (.i .i64 0))], none⟩,
        ⟨.no, .l (.st 1), [.l 35, .k (.m (.i .u8 45))], none⟩])
      (.seq
      (.reg [⟨.l 36, .p .mv, [.v 7], none⟩,
        ⟨.l 37, .p (.bin .add), [.k (.m (.i .i64 1)), .l 36], none⟩,
        ⟨.l 38, .r (.slcA 24 1 false true false), [.v 5, .l 37], none⟩,
        ⟨.l 39, .r .b2s, [.l 38], none⟩,
        ⟨.v 4, .p .mv, [.l 39], none⟩])
      .ret))
      .skip))
    (.seq
    (.reg [⟨.l 40, .p .mv, [.v 7], none⟩,
      ⟨.l 41, .p (.bin .add), [.k (.m (.i .i64 1)), .l 40], none⟩,
      ⟨.l 42, .r (.slcA 24 1 true true false), [.v 5, .k (.m (.i .i64 1)), .l 41], none⟩,
      ⟨.l 43, .r .b2s, [.l 42], none⟩,
      ⟨.v 4, .p .mv, [.l 43], none⟩])
    .ret))))))))
    .skip))
  (.seq
  (.reg [⟨.l 45, .p .mv, [.v 0], none⟩,
    ⟨.l 46, .p (.cv .u64), [.l 45], none⟩,
    ⟨.l 47, .p .mv, [.v 1], none⟩,
    ⟨.l 48, .p .mv, [.v 0], none⟩,
    ⟨.l 49, .p (.bin .lss), [.l 48, .k (.m (.i .i64 0))], none⟩,
    ⟨.l 50, .l (.cal 123), [.k (.m (.nl 4)), .l 46, .l 47, .l 49, .k (.m (.b false))], none⟩,
    ⟨.l 44, .p .mv, [.l 50], none⟩,
    ⟨.l 51, .p (.ext 0), [.l 44], none⟩,
    ⟨.l 52, .p (.ext 1), [.l 44], none⟩,
    ⟨.l 8, .p .mv, [.l 51], none⟩,
    ⟨.v 9, .p .mv, [.l 52], none⟩])
  (.seq
  (.reg [⟨.l 53, .p .mv, [.v 9], none⟩,
    ⟨.v 4, .p .mv, [.l 53], none⟩])
  .ret))))⟩

/- internal/strconv.AppendUint -/
def c103 : F := ⟨3, [.t 6],
  (.seq
  (.reg [⟨.v 6, .p .mv, [.k (.m (.nl 4))], none⟩])
  (.seq
  (.seq
  (.reg [⟨.l 9, .p .mv, [.v 2], none⟩,
    ⟨.v 10, .p (.bin .eql), [.l 9, .k (.m (.i .i64 10))], none⟩])
  (.ite (.v 10)
    (.seq
    (.seq
    (.reg [⟨.l 11, .p .mv, [.v 1], none⟩,
      ⟨.v 12, .p (.bin .lss), [.l 11, .k (.m (.i .u64 100))], none⟩])
    (.ite (.v 12)
      (.seq
      (.reg [⟨.l 13, .p .mv, [.v 0], none⟩,
        ⟨.l 14, .p .mv, [.v 1], none⟩,
        ⟨.l 15, .p (.cv .i64), [.l 14], none⟩,
        ⟨.l 16, .l (.cal 120), [.l 15], none⟩,
        ⟨.l 17, .l (.app 5 1 1), [.l 13, .l 16], none⟩,
        ⟨.v 6, .p .mv, [.l 17], none⟩])
      .ret)
      .skip))
    (.seq
    (.reg [⟨.v 7, .l (.als 129 1 24 [.m (.i .u8 0), .m (.i .u8 0), .m (.i .u8 0), .m (.i .u8 0), .m (.i .u8 0), .m (.i .u8 0), .m (.i .u8 0), .m (.i .u8 0), .m (.i .u8 0), .m (.i .u8 0), .m (.i .u8 0), .m (.i .u8 0), .m (.i .u8 0), .m (.i .u8 0), .m (.i .u8 0), .m (.i .u8 0), .m (.i .u8 0), .m (.i .u8 0), .m (.i .u8 0), .m (.i .u8 0), .m (.i .u8 0), .m (.i .u8 0), .m (.i .u8 0), .m (.i .u8 0)]), [], none⟩])
    (.seq
    (.reg [⟨.l 18, .p .mv, [.v 1], none⟩,
      ⟨.l 19, .l (.cal 121), [.l 18], none⟩,
      ⟨.v 8, .p .mv, [.l 19], none⟩])
    (.seq
    (.reg [⟨.l 20, .p .mv, [.v 8], none⟩,
      ⟨.l 21, .r (.slcA 24 1 false true false), [.v 7, .l 20], none⟩,
      ⟨.l 22, .p .mv, [.v 1], none⟩,
      ⟨.l 23, .l (.cal 122), [.l 21, .l 22], none⟩])
    (.seq
    (.reg [⟨.l 24, .p .mv, [.v 0], none⟩,
      ⟨.l 25, .p .mv, [.v 8], none⟩,
      ⟨.l 26, .r (.slcA 24 1 false true false), [.v 7, .l 25], none⟩,
      ⟨.l 27, .l (.app 5 1 1), [.l 24, .l 26], none⟩,
      ⟨.v 6, .p .mv, [.l 27], none⟩])
    .ret)))))
    .skip))
  (.seq
  (.reg [⟨.l 29, .p .mv, [.v 0], none⟩,
    ⟨.l 30, .p .mv, [.v 1], none⟩,
    ⟨.l 31, .p .mv, [.v 2], none⟩,
    ⟨.l 32, .l (.cal 123), [.l 29, .l 30, .l 31, .k (.m (.b false)), .k (.m (.b true))], none⟩,
    ⟨.l 28, .p .mv, [.l 32], none⟩,
    ⟨.l 33, .p (.ext 0), [.l 28], none⟩,
    ⟨.l 34, .p (.ext 1), [.l 28], none⟩,
    ⟨.v 0, .p .mv, [.l 33], none⟩])
  (.seq
  (.reg [⟨.l 35, .p .mv, [.v 0], none⟩,
    ⟨.v 6, .p .mv, [.l 35], none⟩])
  .ret))))⟩

/- strings.splitSeq -/
def c104 : F := ⟨3, [.t 6],
  (.seq
  (.reg [⟨.v 3, .l (.bxs 9 1 1), [.v 0], none⟩,
    ⟨.v 4, .l (.bxs 9 1 1), [.v 1], none⟩,
    ⟨.v 5, .l (.bxs 3 1 1), [.v 2], none⟩,
    ⟨.v 6, .p .mv, [.k (.m (.nl 2))], none⟩])
  (.seq
  (.reg [⟨.l 7, .p (.mkf 124), [.v 4, .v 3, .v 5], none⟩,
    ⟨.v 6, .p .mv, [.l 7], none⟩])
  .ret))⟩

/- internal/stringslite.HasPrefix -/
def c105 : F := ⟨2, [.t 4],
  (.seq
  (.reg [⟨.v 4, .p .mv, [.k (.m (.b false))], none⟩])
  (.seq
  (.reg [⟨.l 5, .p .mv, [.v 0], none⟩,
    ⟨.l 6, .p (.len true), [.l 5], none⟩,
    ⟨.l 7, .p .mv, [.v 1], none⟩,
    ⟨.l 8, .p (.len true), [.l 7], none⟩,
    ⟨.l 9, .p (.bin .geq), [.l 6, .l 8], none⟩,
    ⟨.l 10, .p .mv, [.l 9], none⟩,
    ⟨.l 11, .p .mv, [.v 0], some (.l 10, true)⟩,
    ⟨.l 12, .p .mv, [.v 1], some (.l 10, true)⟩,
    ⟨.l 13, .p (.len true), [.l 12], some (.l 10, true)⟩,
    ⟨.l 14, .p (.slc 0 false true false), [.l 11, .l 13], some (.l 10, true)⟩,
    ⟨.l 15, .p .mv, [.v 1], some (.l 10, true)⟩,
    ⟨.l 16, .p (.bin .eql), [.l 14, .l 15], some (.l 10, true)⟩,
    ⟨.l 17, .p .pick, [.l 10, .l 16, .k (.m (.b false))], none⟩,
    ⟨.v 4, .p .mv, [.l 17], none⟩])
  .ret))⟩

/- internal/stringslite.TrimPrefix -/
def c106 : F := ⟨2, [.t 4],
  (.seq
  (.reg [⟨.v 4, .p .mv, [.k (.m (.s []))], none⟩])
  (.seq
  (.seq
  (.reg [⟨.l 5, .p .mv, [.v 0], none⟩,
    ⟨.l 6, .p .mv, [.v 1], none⟩,
    ⟨.v 7, .l (.cal 105), [.l 5, .l 6], none⟩])
  (.ite (.v 7)
    (.seq
    (.reg [⟨.l 8, .p .mv, [.v 0], none⟩,
      ⟨.l 9, .p .mv, [.v 1], none⟩,
      ⟨.l 10, .p (.len true), [.l 9], none⟩,
      ⟨.l 11, .p (.slc 0 true false false), [.l 8, .l 10], none⟩,
      ⟨.v 4, .p .mv, [.l 11], none⟩])
    .ret)
    .skip))
  (.seq
  (.reg [⟨.l 12, .p .mv, [.v 0], none⟩,
    ⟨.v 4, .p .mv, [.l 12], none⟩])
  .ret)))⟩

/- internal/strconv.Atoi -/
def c107_B0 : C :=
  (.seq
  (.reg [⟨.v 50, .p (.bin .lss), [.v 49, .v 48], none⟩])
  (.seq
  (.ite (.v 50)
    .skip
    (.ex 0))
  (.seq
  (.blk 1
  (.seq
  (.reg [⟨.l 51, .p (.ixa 1), [.v 47, .v 49], none⟩,
    ⟨.l 52, .r (.ld false 1), [.l 51], none⟩,
    ⟨.v 8, .p .mv, [.l 52], none⟩])
  (.seq
  (.reg [⟨.l 53, .p .mv, [.v 8], none⟩,
    ⟨.l 54, .p (.bin .sub), [.l 53, .k (.m (.i .u8 48))], none⟩,
    ⟨.v 8, .p .mv, [.l 54], none⟩])
  (.seq
  (.seq
  (.reg [⟨.l 55, .p .mv, [.v 8], none⟩,
    ⟨.v 56, .p (.bin .gtr), [.l 55, .k (.m (.i .u8 9))], none⟩])
  (.ite (.v 56)
    (.seq
    (.reg [⟨.l 57, .p .mv, [], none⟩,
      ⟨.v 2, .p .mv, [.k (.m (.i .i64 0))], none⟩,
      ⟨.v 3, .p .mv, [.l 57], none⟩])
    .ret)
    .skip))
  (.reg [⟨.l 58, .p .mv, [.v 6], none⟩,
    ⟨.l 59, .p (.bin .mul), [.l 58, .k (.m (.i .i64 10))], none⟩,
    ⟨.l 60, .p .mv, [.v 8], none⟩,
    ⟨.l 61, .p (.cv .i64), [.l 60], none⟩,
    ⟨.l 62, .p (.bin .add), [.l 59, .l 61], none⟩,
    ⟨.v 6, .p .mv, [.l 62], none⟩])))))
  (.reg [⟨.l 63, .p (.bin .add), [.v 49, .k (.m (.i .i64 1))], none⟩,
    ⟨.v 49, .p .mv, [.l 63], none⟩]))))
def c107_L0 : C := .loop [0, 2, 3, 4, 8, 30, 39, 44, 50, 56] c107_B0
def c107 : F := ⟨1, [.t 2, .t 3],
  (.seq
  (.reg [⟨.v 2, .p .mv, [.k (.m (.i .i64 0))], none⟩,
    ⟨.v 3, .p .mv, [.k (.m (.nl 3))], none⟩])
  (.seq
  (.reg [⟨.l 11, .p .mv, [.v 0], none⟩,
    ⟨.l 12, .p (.len true), [.l 11], none⟩,
    ⟨.v 4, .p .mv, [.l 12], none⟩])
  (.seq
  (.seq
  (.reg [⟨.l 13, .p .mv, [.k (.m (.b false))], none⟩,
    ⟨.l 14, .p .mv, [.v 4], some (.l 13, true)⟩,
    ⟨.l 15, .p (.bin .lss), [.k (.m (.i .i64 0)), .l 14], some (.l 13, true)⟩,
    ⟨.l 16, .p .mv, [.l 15], some (.l 13, true)⟩,
    ⟨.l 17, .p .mv, [.v 4], some (.l 16, true)⟩,
    ⟨.l 18, .p (.bin .lss), [.l 17, .k (.m (.i .i64 10))], some (.l 16, true)⟩,
    ⟨.l 19, .p .pick, [.l 16, .l 18, .k (.m (.b false))], some (.l 13, true)⟩,
    ⟨.l 20, .p .pick, [.l 13, .l 19, .k (.m (.b false))], none⟩,
    ⟨.l 21, .p .mv, [.l 20], none⟩,
    ⟨.l 22, .p .mv, [.k (.m (.b true))], some (.l 21, false)⟩,
    ⟨.l 23, .p .mv, [.v 4], some (.l 22, true)⟩,
    ⟨.l 24, .p (.bin .lss), [.k (.m (.i .i64 0)), .l 23], some (.l 22, true)⟩,
    ⟨.l 25, .p .mv, [.l 24], some (.l 22, true)⟩,
    ⟨.l 26, .p .mv, [.v 4], some (.l 25, true)⟩,
    ⟨.l 27, .p (.bin .lss), [.l 26, .k (.m (.i .i64 19))], some (.l 25, true)⟩,
    ⟨.l 28, .p .pick, [.l 25, .l 27, .k (.m (.b false))], some (.l 22, true)⟩,
    ⟨.l 29, .p .pick, [.l 22, .l 28, .k (.m (.b false))], some (.l 21, false)⟩,
    ⟨.v 30, .p .pick, [.l 21, .k (.m (.b true)), .l 29], none⟩])
  (.ite (.v 30)
    (.seq
    (.reg [⟨.l 31, .p .mv, [.v 0], none⟩,
      ⟨.v 5, .p .mv, [.l 31], none⟩])
    (.seq
    (.seq
    (.reg [⟨.l 32, .p .mv, [.v 0], none⟩,
      ⟨.l 33, .p .ixs, [.l 32, .k (.m (.i .i64 0))], none⟩,
      ⟨.l 34, .p (.bin .eql), [.l 33, .k (.m (.i .u8 45))], none⟩,
      ⟨.l 35, .p .mv, [.l 34], none⟩,
      ⟨.l 36, .p .mv, [.v 0], some (.l 35, false)⟩,
      ⟨.l 37, .p .ixs, [.l 36, .k (.m (.i .i64 0))], some (.l 35, false)⟩,
      ⟨.l 38, .p (.bin .eql), [.l 37, .k (.m (.i .u8 43))], some (.l 35, false)⟩,
      ⟨.v 39, .p .pick, [.l 35, .k (.m (.b true)), .l 38], none⟩])
    (.ite (.v 39)
      (.seq
      (.reg [⟨.l 40, .p .mv, [.v 0], none⟩,
        ⟨.l 41, .p (.slc 0 true false false), [.l 40, .k (.m (.i .i64 1))], none⟩,
        ⟨.v 0, .p .mv, [.l 41], none⟩])
      (.seq
      (.reg [⟨.l 42, .p .mv, [.v 0], none⟩,
        ⟨.l 43, .p (.len true), [.l 42], none⟩,
        ⟨.v 44, .p (.bin .lss), [.l 43, .k (.m (.i .i64 1))], none⟩])
      (.ite (.v 44)
        (.seq
        (.reg [⟨.l 45, .p .mv, [], none⟩,
          ⟨.v 2, .p .mv, [.k (.m (.i .i64 0))], none⟩,
          ⟨.v 3, .p .mv, [.l 45], none⟩])
        .ret)
        .skip)))
      .skip))
    (.seq
    (.reg [⟨.v 6, .p .mv, [.k (.m (.i .i64 0))], none⟩])
    (.seq
    (.seq
    (.reg [⟨.l 46, .p .mv, [.v 0], none⟩,
      ⟨.v 47, .p .s2b, [.l 46], none⟩,
      ⟨.v 48, .p (.len false), [.v 47], none⟩,
      ⟨.v 49, .p .mv, [.k (.m (.i .i64 0))], none⟩])
    (.blk 0
    c107_L0))
    (.seq
    (.seq
    (.reg [⟨.l 64, .p .mv, [.v 5], none⟩,
      ⟨.l 65, .p .ixs, [.l 64, .k (.m (.i .i64 0))], none⟩,
      ⟨.v 66, .p (.bin .eql), [.l 65, .k (.m (.i .u8 45))], none⟩])
    (.ite (.v 66)
      (.reg [⟨.l 67, .p .mv, [.v 6], none⟩,
        ⟨.l 68, .p (.un .neg), [.l 67], none⟩,
        ⟨.v 6, .p .mv, [.l 68], none⟩])
      .skip))
    (.seq
    (.reg [⟨.l 69, .p .mv, [.v 6], none⟩,
      ⟨.v 2, .p .mv, [.l 69], none⟩,
      ⟨.v 3, .p .mv, [.k (.m (.nl 3))], none⟩])
    .ret))))))
    .skip))
  (.seq
  (.reg [⟨.l 71, .p .mv, [.v 0], none⟩,
    ⟨.l 72, .l (.cal 127), [.l 71, .k (.m (.i .i64 10)), .k (.m (.i .i64 0))], none⟩,
    ⟨.l 70, .p .mv, [.l 72], none⟩,
    ⟨.l 73, .p (.ext 0), [.l 70], none⟩,
    ⟨.l 74, .p (.ext 1), [.l 70], none⟩,
    ⟨.v 9, .p .mv, [.l 73], none⟩,
    ⟨.v 10, .p .mv, [.l 74], none⟩])
  (.seq
  (.reg [⟨.l 75, .p .mv, [.v 9], none⟩,
    ⟨.l 76, .p .mv, [.v 10], none⟩,
    ⟨.v 2, .p .mv, [.l 75], none⟩,
    ⟨.v 3, .p .mv, [.l 76], none⟩])
  .ret)))))⟩

/- strconv.toError -/
def c108 : F := ⟨5, [.t 10],
  (.seq
  (.reg [⟨.v 10, .p .mv, [.k (.m (.nl 3))], none⟩])
  (.seq
  (.seq
  (.reg [⟨.v 11, .p .mv, [.v 4], none⟩])
  (.blk 0
  (.seq
  (.reg [⟨.l 13, .p .mv, [], none⟩,
    ⟨.l 14, .p .mv, [], none⟩,
    ⟨.v 12, .p .mv, [.l 14], none⟩])
  (.ite (.v 12)
    (.seq
    (.reg [⟨.l 15, .p .mv, [.v 0], none⟩,
      ⟨.l 16, .p .mv, [.v 1], none⟩,
      ⟨.l 17, .l (.cal 128), [.l 15, .l 16], none⟩,
      ⟨.l 18, .p .mv, [], none⟩,
      ⟨.v 10, .p .mv, [.l 18], none⟩])
    .ret)
    (.seq
    (.reg [⟨.l 20, .p .mv, [], none⟩,
      ⟨.l 21, .p .mv, [], none⟩,
      ⟨.v 19, .p .mv, [.l 21], none⟩])
    (.ite (.v 19)
      (.seq
      (.reg [⟨.l 22, .p .mv, [.v 0], none⟩,
        ⟨.l 23, .p .mv, [.v 1], none⟩,
        ⟨.l 24, .l (.cal 129), [.l 22, .l 23], none⟩,
        ⟨.l 25, .p .mv, [], none⟩,
        ⟨.v 10, .p .mv, [.l 25], none⟩])
      .ret)
      (.seq
      (.reg [⟨.l 27, .p .mv, [], none⟩,
        ⟨.l 28, .p .mv, [], none⟩,
        ⟨.v 26, .p .mv, [.l 28], none⟩])
      (.ite (.v 26)
        (.seq
        (.reg [⟨.l 29, .p .mv, [.v 0], none⟩,
          ⟨.l 30, .p .mv, [.v 1], none⟩,
          ⟨.l 31, .p .mv, [.v 2], none⟩,
          ⟨.l 32, .l (.cal 130), [.l 29, .l 30, .l 31], none⟩,
          ⟨.l 33, .p .mv, [], none⟩,
          ⟨.v 10, .p .mv, [.l 33], none⟩])
        .ret)
        (.seq
        (.reg [⟨.l 35, .p .mv, [], none⟩,
          ⟨.l 36, .p .mv, [], none⟩,
          ⟨.v 34, .p .mv, [.l 36], none⟩])
        (.ite (.v 34)
          (.seq
          (.reg [⟨.l 37, .p .mv, [.v 0], none⟩,
            ⟨.l 38, .p .mv, [.v 1], none⟩,
            ⟨.l 39, .p .mv, [.v 3], none⟩,
            ⟨.l 40, .l (.cal 131), [.l 37, .l 38, .l 39], none⟩,
            ⟨.l 41, .p .mv, [], none⟩,
            ⟨.v 10, .p .mv, [.l 41], none⟩])
          .ret)
          .skip))))))))))
  (.seq
  (.reg [⟨.l 42, .p .mv, [.v 4], none⟩,
    ⟨.v 10, .p .mv, [.l 42], none⟩])
  .ret)))⟩

/- internal/strconv.small -/
def c120 : F := ⟨1, [.t 2],
  (.seq
  (.reg [⟨.v 2, .p .mv, [.k (.m (.s []))], none⟩])
  (.seq
  (.seq
  (.reg [⟨.l 3, .p .mv, [.v 0], none⟩,
    ⟨.v 4, .p (.bin .lss), [.l 3, .k (.m (.i .i64 10))], none⟩])
  (.ite (.v 4)
    (.seq
    (.reg [⟨.l 5, .p .mv, [.v 0], none⟩,
      ⟨.l 6, .p .mv, [.v 0], none⟩,
      ⟨.l 7, .p (.bin .add), [.l 6, .k (.m (.i .i64 1))], none⟩,
      ⟨.l 8, .p (.slc 0 true true false), [.k (.m (.s [48, 49, 50, 51, 52, 53, 54, 55, 56, 57, 97, 98, 99, 100, 101, 102, 103, 104, 105, 106, 107, 108, 109, 110, 111, 112, 113, 114, 115, 116, 117, 118, 119, 120, 121, 122])), .l 5, .l 7], none⟩,
      ⟨.v 2, .p .mv, [.l 8], none⟩])
    .ret)
    .skip))
  (.seq
  (.reg [⟨.l 9, .p .mv, [.v 0], none⟩,
    ⟨.l 10, .p (.bin .mul), [.l 9, .k (.m (.i .i64 2))], none⟩,
    ⟨.l 11, .p .mv, [.v 0], none⟩,
    ⟨.l 12, .p (.bin .mul), [.l 11, .k (.m (.i .i64 2))], none⟩,
    ⟨.l 13, .p (.bin .add), [.l 12, .k (.m (.i .i64 2))], none⟩,
    ⟨.l 14, .p (.slc 0 true true false), [.k (.m (.s [48, 48, 48, 49, 48, 50, 48, 51, 48, 52, 48, 53, 48, 54, 48, 55, 48, 56, 48, 57, 49, 48, 49, 49, 49, 50, 49, 51, 49, 52, 49, 53, 49, 54, 49, 55, 49, 56, 49, 57, 50, 48, 50, 49, 50, 50, 50, 51, 50, 52, 50, 53, 50, 54, 50, 55, 50, 56, 50, 57, 51, 48, 51, 49, 51, 50, 51, 51, 51, 52, 51, 53, 51, 54, 51, 55, 51, 56, 51, 57, 52, 48, 52, 49, 52, 50, 52, 51, 52, 52, 52, 53, 52, 54, 52, 55, 52, 56, 52, 57, 53, 48, 53, 49, 53, 50, 53, 51, 53, 52, 53, 53, 53, 54, 53, 55, 53, 56, 53, 57, 54, 48, 54, 49, 54, 50, 54, 51, 54, 52, 54, 53, 54, 54, 54, 55, 54, 56, 54, 57, 55, 48, 55, 49, 55, 50, 55, 51, 55, 52, 55, 53, 55, 54, 55, 55, 55, 56, 55, 57, 56, 48, 56, 49, 56, 50, 56, 51, 56, 52, 56, 53, 56, 54, 56, 55, 56, 56, 56, 57, 57, 48, 57, 49, 57, 50, 57, 51, 57, 52, 57, 53, 57, 54, 57, 55, 57, 56, 57, 57])), .l 10, .l 13], none⟩,
    ⟨.v 2, .p .mv, [.l 14], none⟩])
  .ret)))⟩

/- internal/strconv.numDigits -/
def c121 : F := ⟨1, [.t 2],
  (.seq
  (.reg [⟨.v 2, .p .mv, [.k (.m (.i .i64 0))], none⟩])
  (.seq
  (.reg [⟨.l 4, .p .mv, [.v 0], none⟩,
    ⟨.l 5, .l (.cal 83), [.l 4], none⟩,
    ⟨.l 6, .l (.cal 135), [.l 5], none⟩,
    ⟨.v 3, .p .mv, [.l 6], none⟩])
  (.seq
  (.reg [⟨.l 7, .p .mv, [.v 3], none⟩,
    ⟨.l 8, .p .mv, [.v 0], none⟩,
    ⟨.l 9, .p .mv, [.v 3], none⟩,
    ⟨.l 10, .p (.ixaA 20 1), [.k (.m (.pt g0)), .l 9], none⟩,
    ⟨.l 11, .r (.ld false 1), [.l 10], none⟩,
    ⟨.l 12, .p (.bin .geq), [.l 8, .l 11], none⟩,
    ⟨.l 13, .l (.cal 136), [.l 12], none⟩,
    ⟨.l 14, .p (.bin .add), [.l 7, .l 13], none⟩,
    ⟨.v 2, .p .mv, [.l 14], none⟩])
  .ret)))⟩

/- internal/strconv.formatBase10 -/
def c122_B0 : C :=
  (.seq
  (.seq
  (.reg [⟨.l 19, .p .mv, [.v 4], none⟩,
    ⟨.v 20, .p (.bin .geq), [.l 19, .k (.m (.i .i64 8))], none⟩])
  (.ite (.v 20)
    .skip
    (.ex 0)))
  (.blk 1
  (.seq
  (.reg [⟨.l 21, .p .mv, [.v 1], none⟩,
    ⟨.l 22, .p (.bin .rem), [.l 21, .k (.m (.i .u64 100000000))], none⟩,
    ⟨.l 23, .p (.cv .u32), [.l 22], none⟩,
    ⟨.v 5, .p .mv, [.l 23], none⟩])
  (.seq
  (.reg [⟨.l 24, .p .mv, [.v 1], none⟩,
    ⟨.l 25, .p (.bin .quo), [.l 24, .k (.m (.i .u64 100000000))], none⟩,
    ⟨.v 1, .p .mv, [.l 25], none⟩])
  (.seq
  (.reg [⟨.l 26, .p .mv, [.v 5], none⟩,
    ⟨.l 27, .p (.bin .quo), [.l 26, .k (.m (.i .u32 10000))], none⟩,
    ⟨.l 28, .p .mv, [.v 5], none⟩,
    ⟨.l 29, .p (.bin .rem), [.l 28, .k (.m (.i .u32 10000))], none⟩,
    ⟨.v 6, .p .mv, [.l 27], none⟩,
    ⟨.v 7, .p .mv, [.l 29], none⟩])
  (.seq
  (.reg [⟨.l 30, .p .mv, [.v 7], none⟩,
    ⟨.l 31, .p (.bin .quo), [.l 30, .k (.m (.i .u32 100))], none⟩,
    ⟨.l 32, .p (.bin .mul), [.l 31, .k (.m (.i .u32 2))], none⟩,
    ⟨.l 33, .p .mv, [.v 7], none⟩,
    ⟨.l 34, .p (.bin .rem), [.l 33, .k (.m (.i .u32 100))], none⟩,
    ⟨.l 35, .p (.bin .mul), [.l 34, .k (.m (.i .u32 2))], none⟩,
    ⟨.v 8, .p .mv, [.l 32], none⟩,
    ⟨.v 9, .p .mv, [.l 35], none⟩])
  (.seq
  (.reg [⟨.l 36, .p .mv, [.v 6], none⟩,
    ⟨.l 37, .p (.bin .quo), [.l 36, .k (.m (.i .u32 100))], none⟩,
    ⟨.l 38, .p (.bin .mul), [.l 37, .k (.m (.i .u32 2))], none⟩,
    ⟨.l 39, .p .mv, [.v 6], none⟩,
    ⟨.l 40, .p (.bin .rem), [.l 39, .k (.m (.i .u32 100))], none⟩,
    ⟨.l 41, .p (.bin .mul), [.l 40, .k (.m (.i .u32 2))], none⟩,
    ⟨.v 10, .p .mv, [.l 38], none⟩,
    ⟨.v 11, .p .mv, [.l 41], none⟩])
  (.seq
  (.reg [⟨.l 42, .p .mv, [.v 0], none⟩,
    ⟨.l 43, .p .mv, [.v 4], none⟩,
    ⟨.l 44, .p (.bin .sub), [.l 43, .k (.m (.i .i64 1))], none⟩,
    ⟨.l 45, .p .mv, [.v 0], none⟩,
    ⟨.l 46, .p .mv, [.v 4], none⟩,
    ⟨.l 47, .p (.bin .sub), [.l 46, .k (.m (.i .i64 2))], none⟩,
    ⟨.l 48, .p .mv, [.v 9], none⟩,
    ⟨.l 49, .p (.bin .add), [.l 48, .k (.m (.i .u32 1))], none⟩,
    ⟨.l 50, .p .ixs, [.k (.m (.s [48, 48, 48, 49, 48, 50, 48, 51, 48, 52, 48, 53, 48, 54, 48, 55, 48, 56, 48, 57, 49, 48, 49, 49, 49, 50, 49, 51, 49, 52, 49, 53, 49, 54, 49, 55, 49, 56, 49, 57, 50, 48, 50, 49, 50, 50, 50, 51, 50, 52, 50, 53, 50, 54, 50, 55, 50, 56, 50, 57, 51, 48, 51, 49, 51, 50, 51, 51, 51, 52, 51, 53, 51, 54, 51, 55, 51, 56, 51, 57, 52, 48, 52, 49, 52, 50, 52, 51, 52, 52, 52, 53, 52, 54, 52, 55, 52, 56, 52, 57, 53, 48, 53, 49, 53, 50, 53, 51, 53, 52, 53, 53, 53, 54, 53, 55, 53, 56, 53, 57, 54, 48, 54, 49, 54, 50, 54, 51, 54, 52, 54, 53, 54, 54, 54, 55, 54, 56, 54, 57, 55, 48, 55, 49, 55, 50, 55, 51, 55, 52, 55, 53, 55, 54, 55, 55, 55, 56, 55, 57, 56, 48, 56, 49, 56, 50, 56, 51, 56, 52, 56, 53, 56, 54, 56, 55, 56, 56, 56, 57, 57, 48, 57, 49, 57, 50, 57, 51, 57, 52, 57, 53, 57, 54, 57, 55, 57, 56, 57, 57])), .l 49], none⟩,
    ⟨.l 51, .p .mv, [.v 9], none⟩,
    ⟨.l 52, .p .ixs, [.k (.m (.s [48, 48, 48, 49, 48, 50, 48, 51, 48, 52, 48, 53, 48, 54, 48, 55, 48, 56, 48, 57, 49, 48, 49, 49, 49, 50, 49, 51, 49, 52, 49, 53, 49, 54, 49, 55, 49, 56, 49, 57, 50, 48, 50, 49, 50, 50, 50, 51, 50, 52, 50, 53, 50, 54, 50, 55, 50, 56, 50, 57, 51, 48, 51, 49, 51, 50, 51, 51, 51, 52, 51, 53, 51, 54, 51, 55, 51, 56, 51, 57, 52, 48, 52, 49, 52, 50, 52, 51, 52, 52, 52, 53, 52, 54, 52, 55, 52, 56, 52, 57, 53, 48, 53, 49, 53, 50, 53, 51, 53, 52, 53, 53, 53, 54, 53, 55, 53, 56, 53, 57, 54, 48, 54, 49, 54, 50, 54, 51, 54, 52, 54, 53, 54, 54, 54, 55, 54, 56, 54, 57, 55, 48, 55, 49, 55, 50, 55, 51, 55, 52, 55, 53, 55, 54, 55, 55, 55, 56, 55, 57, 56, 48, 56, 49, 56, 50, 56, 51, 56, 52, 56, 53, 56, 54, 56, 55, 56, 56, 56, 57, 57, 48, 57, 49, 57, 50, 57, 51, 57, 52, 57, 53, 57, 54, 57, 55, 57, 56, 57, 57])), .l 51], none⟩,
    ⟨.l 53, .p (.ixa 1), [.l 42, .l 44], none⟩,
    ⟨.no, .l (.st 1), [.l 53, .l 50], none⟩,
    ⟨.l 54, .p (.ixa 1), [.l 45, .l 47], none⟩,
    ⟨.no, .l (.st 1), [.l 54, .l 52], none⟩])
  (.seq
  (.reg [⟨.l 55, .p .mv, [.v 0], none⟩,
    ⟨.l 56, .p .mv, [.v 4], none⟩,
    ⟨.l 57, .p (.bin .sub), [.l 56, .k (.m (.i .i64 3))], none⟩,
    ⟨.l 58, .p .mv, [.v 0], none⟩,
    ⟨.l 59, .p .mv, [.v 4], none⟩,
    ⟨.l 60, .p (.bin .sub), [.l 59, .k (.m (.i .i64 4))], none⟩,
    ⟨.l 61, .p .mv, [.v 8], none⟩,
    ⟨.l 62, .p (.bin .add), [.l 61, .k (.m (.i .u32 1))], none⟩,
    ⟨.l 63, .p .ixs, [.k (.m (.s [48, 48, 48, 49, 48, 50, 48, 51, 48, 52, 48, 53, 48, 54, 48, 55, 48, 56, 48, 57, 49, 48, 49, 49, 49, 50, 49, 51, 49, 52, 49, 53, 49, 54, 49, 55, 49, 56, 49, 57, 50, 48, 50, 49, 50, 50, 50, 51, 50, 52, 50, 53, 50, 54, 50, 55, 50, 56, 50, 57, 51, 48, 51, 49, 51, 50, 51, 51, 51, 52, 51, 53, 51, 54, 51, 55, 51, 56, 51, 57, 52, 48, 52, 49, 52, 50, 52, 51, 52, 52, 52, 53, 52, 54, 52, 55, 52, 56, 52, 57, 53, 48, 53, 49, 53, 50, 53, 51, 53, 52, 53, 53, 53, 54, 53, 55, 53, 56, 53, 57, 54, 48, 54, 49, 54, 50, 54, 51, 54, 52, 54, 53, 54, 54, 54, 55, 54, 56, 54, 57, 55, 48, 55, 49, 55, 50, 55, 51, 55, 52, 55, 53, 55, 54, 55, 55, 55, 56, 55, 57, 56, 48, 56, 49, 56, 50, 56, 51, 56, 52, 56, 53, 56, 54, 56, 55, 56, 56, 56, 57, 57, 48, 57, 49, 57, 50, 57, 51, 57, 52, 57, 53, 57, 54, 57, 55, 57, 56, 57, 57])), .l 62], none⟩,
    ⟨.l 64, .p .mv, [.v 8], none⟩,
    ⟨.l 65, .p .ixs, [.k (.m (.s [48, 48, 48, 49, 48, 50, 48, 51, 48, 52, 48, 53, 48, 54, 48, 55, 48, 56, 48, 57, 49, 48, 49, 49, 49, 50, 49, 51, 49, 52, 49, 53, 49, 54, 49, 55, 49, 56, 49, 57, 50, 48, 50, 49, 50, 50, 50, 51, 50, 52, 50, 53, 50, 54, 50, 55, 50, 56, 50, 57, 51, 48, 51, 49, 51, 50, 51, 51, 51, 52, 51, 53, 51, 54, 51, 55, 51, 56, 51, 57, 52, 48, 52, 49, 52, 50, 52, 51, 52, 52, 52, 53, 52, 54, 52, 55, 52, 56, 52, 57, 53, 48, 53, 49, 53, 50, 53, 51, 53, 52, 53, 53, 53, 54, 53, 55, 53, 56, 53, 57, 54, 48, 54, 49, 54, 50, 54, 51, 54, 52, 54, 53, 54, 54, 54, 55, 54, 56, 54, 57, 55, 48, 55, 49, 55, 50, 55, 51, 55, 52, 55, 53, 55, 54, 55, 55, 55, 56, 55, 57, 56, 48, 56, 49, 56, 50, 56, 51, 56, 52, 56, 53, 56, 54, 56, 55, 56, 56, 56, 57, 57, 48, 57, 49, 57, 50, 57, 51, 57, 52, 57, 53, 57, 54, 57, 55, 57, 56, 57, 57])), .l 64], none⟩,
    ⟨.l 66, .p (.ixa 1), [.l 55, .l 57], none⟩,
    ⟨.no, .l (.st 1), [.l 66, .l 63], none⟩,
    ⟨.l 67, .p (.ixa 1), [.l 58, .l 60], none⟩,
    ⟨.no, .l (.st 1), [.l 67, .l 65], none⟩])
  (.seq
  (.reg [⟨.l 68, .p .mv, [.v 0], none⟩,
    ⟨.l 69, .p .mv, [.v 4], none⟩,
    ⟨.l 70, .p (.bin .sub), [.l 69, .k (.m (.i .i64 5))], none⟩,
    ⟨.l 71, .p .mv, [.v 0], none⟩,
    ⟨.l 72, .p .mv, [.v 4], none⟩,
    ⟨.l 73, .p (.bin .sub), [.l 72, .k (.m (.i .i64 6))], none⟩,
    ⟨.l 74, .p .mv, [.v 11], none⟩,
    ⟨.l 75, .p (.bin .add), [.l 74, .k (.m (.i .u32 1))], none⟩,
    ⟨.l 76, .p .ixs, [.k (.m (.s [48, 48, 48, 49, 48, 50, 48, 51, 48, 52, 48, 53, 48, 54, 48, 55, 48, 56, 48, 57, 49, 48, 49, 49, 49, 50, 49, 51, 49, 52, 49, 53, 49, 54, 49, 55, 49, 56, 49, 57, 50, 48, 50, 49, 50, 50, 50, 51, 50, 52, 50, 53, 50, 54, 50, 55, 50, 56, 50, 57, 51, 48, 51, 49, 51, 50, 51, 51, 51, 52, 51, 53, 51, 54, 51, 55, 51, 56, 51, 57, 52, 48, 52, 49, 52, 50, 52, 51, 52, 52, 52, 53, 52, 54, 52, 55, 52, 56, 52, 57, 53, 48, 53, 49, 53, 50, 53, 51, 53, 52, 53, 53, 53, 54, 53, 55, 53, 56, 53, 57, 54, 48, 54, 49, 54, 50, 54, 51, 54, 52, 54, 53, 54, 54, 54, 55, 54, 56, 54, 57, 55, 48, 55, 49, 55, 50, 55, 51, 55, 52, 55, 53, 55, 54, 55, 55, 55, 56, 55, 57, 56, 48, 56, 49, 56, 50, 56, 51, 56, 52, 56, 53, 56, 54, 56, 55, 56, 56, 56, 57, 57, 48, 57, 49, 57, 50, 57, 51, 57, 52, 57, 53, 57, 54, 57, 55, 57, 56, 57, 57])), .l 75], none⟩,
    ⟨.l 77, .p .mv, [.v 11], none⟩,
    ⟨.l 78, .p .ixs, [.k (.m (.s [48, 48, 48, 49, 48, 50, 48, 51, 48, 52, 48, 53, 48, 54, 48, 55, 48, 56, 48, 57, 49, 48, 49, 49, 49, 50, 49, 51, 49, 52, 49, 53, 49, 54, 49, 55, 49, 56, 49, 57, 50, 48, 50, 49, 50, 50, 50, 51, 50, 52, 50, 53, 50, 54, 50, 55, 50, 56, 50, 57, 51, 48, 51, 49, 51, 50, 51, 51, 51, 52, 51, 53, 51, 54, 51, 55, 51, 56, 51, 57, 52, 48, 52, 49, 52, 50, 52, 51, 52, 52, 52, 53, 52, 54, 52, 55, 52, 56, 52, 57, 53, 48, 53, 49, 53, 50, 53, 51, 53, 52, 53, 53, 53, 54, 53, 55, 53, 56, 53, 57, 54, 48, 54, 49, 54, 50, 54, 51, 54, 52, 54, 53, 54, 54, 54, 55, 54, 56, 54, 57, 55, 48, 55, 49, 55, 50, 55, 51, 55, 52, 55, 53, 55, 54, 55, 55, 55, 56, 55, 57, 56, 48, 56, 49, 56, 50, 56, 51, 56, 52, 56, 53, 56, 54, 56, 55, 56, 56, 56, 57, 57, 48, 57, 49, 57, 50, 57, 51, 57, 52, 57, 53, 57, 54, 57, 55, 57, 56, 57, 57])), .l 77], none⟩,
    ⟨.l 79, .p (.ixa 1), [.l 68, .l 70], none⟩,
    ⟨.no, .l (.st 1), [.l 79, .l 76], none⟩,
    ⟨.l 80, .p (.ixa 1), [.l 71, .l 73], none⟩,
    ⟨.no, .l (.st 1), [.l 80, .l 78], none⟩])
  (.seq
  (.reg [⟨.l 81, .p .mv, [.v 0], none⟩,
    ⟨.l 82, .p .mv, [.v 4], none⟩,
    ⟨.l 83, .p (.bin .sub), [.l 82, .k (.m (.i .i64 7))], none⟩,
    ⟨.l 84, .p .mv, [.v 0], none⟩,
    ⟨.l 85, .p .mv, [.v 4], none⟩,
    ⟨.l 86, .p (.bin .sub), [.l 85, .k (.m (.i .i64 8))], none⟩,
    ⟨.l 87, .p .mv, [.v 10], none⟩,
    ⟨.l 88, .p (.bin .add), [.l 87, .k (.m (.i .u32 1))], none⟩,
    ⟨.l 89, .p .ixs, [.k (.m (.s [48, 48, 48, 49, 48, 50, 48, 51, 48, 52, 48, 53, 48, 54, 48, 55, 48, 56, 48, 57, 49, 48, 49, 49, 49, 50, 49, 51, 49, 52, 49, 53, 49, 54, 49, 55, 49, 56, 49, 57, 50, 48, 50, 49, 50, 50, 50, 51, 50, 52, 50, 53, 50, 54, 50, 55, 50, 56, 50, 57, 51, 48, 51, 49, 51, 50, 51, 51, 51, 52, 51, 53, 51, 54, 51, 55, 51, 56, 51, 57, 52, 48, 52, 49, 52, 50, 52, 51, 52, 52, 52, 53, 52, 54, 52, 55, 52, 56, 52, 57, 53, 48, 53, 49, 53, 50, 53, 51, 53, 52, 53, 53, 53, 54, 53, 55, 53, 56, 53, 57, 54, 48, 54, 49, 54, 50, 54, 51, 54, 52, 54, 53, 54, 54, 54, 55, 54, 56, 54, 57, 55, 48, 55, 49, 55, 50, 55, 51, 55, 52, 55, 53, 55, 54, 55, 55, 55, 56, 55, 57, 56, 48, 56, 49, 56, 50, 56, 51, 56, 52, 56, 53, 56, 54, 56, 55, 56, 56, 56, 57, 57, 48, 57, 49, 57, 50, 57, 51, 57, 52, 57, 53, 57, 54, 57, 55, 57, 56, 57, 57])), .l 88], none⟩,
    ⟨.l 90, .p .mv, [.v 10], none⟩,
    ⟨.l 91, .p .ixs, [.k (.m (.s [48, 48, 48, 49, 48, 50, 48, 51, 48, 52, 48, 53, 48, 54, 48, 55, 48, 56, 48, 57, 49, 48, 49, 49, 49, 50, 49, 51, 49, 52, 49, 53, 49, 54, 49, 55, 49, 56, 49, 57, 50, 48, 50, 49, 50, 50, 50, 51, 50, 52, 50, 53, 50, 54, 50, 55, 50, 56, 50, 57, 51, 48, 51, 49, 51, 50, 51, 51, 51, 52, 51, 53, 51, 54, 51, 55, 51, 56, 51, 57, 52, 48, 52, 49, 52, 50, 52, 51, 52, 52, 52, 53, 52, 54, 52, 55, 52, 56, 52, 57, 53, 48, 53, 49, 53, 50, 53, 51, 53, 52, 53, 53, 53, 54, 53, 55, 53, 56, 53, 57, 54, 48, 54, 49, 54, 50, 54, 51, 54, 52, 54, 53, 54, 54, 54, 55, 54, 56, 54, 57, 55, 48, 55, 49, 55, 50, 55, 51, 55, 52, 55, 53, 55, 54, 55, 55, 55, 56, 55, 57, 56, 48, 56, 49, 56, 50, 56, 51, 56, 52, 56, 53, 56, 54, 56, 55, 56, 56, 56, 57, 57, 48, 57, 49, 57, 50, 57, 51, 57, 52, 57, 53, 57, 54, 57, 55, 57, 56, 57, 57])), .l 90], none⟩,
    ⟨.l 92, .p (.ixa 1), [.l 81, .l 83], none⟩,
    ⟨.no, .l (.st 1), [.l 92, .l 89], none⟩,
    ⟨.l 93, .p (.ixa 1), [.l 84, .l 86], none⟩,
    ⟨.no, .l (.st 1), [.l 93, .l 91], none⟩])
  (.reg [⟨.l 94, .p .mv, [.v 4], none⟩,
    ⟨.l 95, .p (.bin .sub), [.l 94, .k (.m (.i .i64 8))], none⟩,
    ⟨.v 4, .p .mv, [.l 95], none⟩]))))))))))))
def c122_L0 : C := .loop [5, 6, 7, 8, 9, 10, 11, 20] c122_B0
def c122 : F := ⟨2, [],
  (.seq
  (.reg [⟨.l 17, .p .mv, [.v 0], none⟩,
    ⟨.l 18, .p (.len false), [.l 17], none⟩,
    ⟨.v 4, .p .mv, [.l 18], none⟩])
  (.seq
  (.blk 0
  c122_L0)
  (.seq
  (.reg [⟨.l 96, .p .mv, [.v 1], none⟩,
    ⟨.l 97, .p (.cv .u32), [.l 96], none⟩,
    ⟨.v 12, .p .mv, [.l 97], none⟩])
  (.seq
  (.seq
  (.reg [⟨.l 98, .p .mv, [.v 4], none⟩,
    ⟨.v 99, .p (.bin .geq), [.l 98, .k (.m (.i .i64 4))], none⟩])
  (.ite (.v 99)
    (.seq
    (.reg [⟨.l 100, .p .mv, [.v 12], none⟩,
      ⟨.l 101, .p (.bin .rem), [.l 100, .k (.m (.i .u32 10000))], none⟩,
      ⟨.v 13, .p .mv, [.l 101], none⟩])
    (.seq
    (.reg [⟨.l 102, .p .mv, [.v 12], none⟩,
      ⟨.l 103, .p (.bin .quo), [.l 102, .k (.m (.i .u32 10000))], none⟩,
      ⟨.v 12, .p .mv, [.l 103], none⟩])
    (.seq
    (.reg [⟨.l 104, .p .mv, [.v 13], none⟩,
      ⟨.l 105, .p (.bin .quo), [.l 104, .k (.m (.i .u32 100))], none⟩,
      ⟨.l 106, .p (.bin .mul), [.l 105, .k (.m (.i .u32 2))], none⟩,
      ⟨.l 107, .p .mv, [.v 13], none⟩,
      ⟨.l 108, .p (.bin .rem), [.l 107, .k (.m (.i .u32 100))], none⟩,
      ⟨.l 109, .p (.bin .mul), [.l 108, .k (.m (.i .u32 2))], none⟩,
      ⟨.v 14, .p .mv, [.l 106], none⟩,
      ⟨.v 15, .p .mv, [.l 109], none⟩])
    (.seq
    (.reg [⟨.l 110, .p .mv, [.v 0], none⟩,
      ⟨.l 111, .p .mv, [.v 4], none⟩,
      ⟨.l 112, .p (.bin .sub), [.l 111, .k (.m (.i .i64 1))], none⟩,
      ⟨.l 113, .p .mv, [.v 0], none⟩,
      ⟨.l 114, .p .mv, [.v 4], none⟩,
      ⟨.l 115, .p (.bin .sub), [.l 114, .k (.m (.i .i64 2))], none⟩,
      ⟨.l 116, .p .mv, [.v 15], none⟩,
      ⟨.l 117, .p (.bin .add), [.l 116, .k (.m (.i .u32 1))], none⟩,
      ⟨.l 118, .p .ixs, [.k (.m (.s [48, 48, 48, 49, 48, 50, 48, 51, 48, 52, 48, 53, 48, 54, 48, 55, 48, 56, 48, 57, 49, 48, 49, 49, 49, 50, 49, 51, 49, 52, 49, 53, 49, 54, 49, 55, 49, 56, 49, 57, 50, 48, 50, 49, 50, 50, 50, 51, 50, 52, 50, 53, 50, 54, 50, 55, 50, 56, 50, 57, 51, 48, 51, 49, 51, 50, 51, 51, 51, 52, 51, 53, 51, 54, 51, 55, 51, 56, 51, 57, 52, 48, 52, 49, 52, 50, 52, 51, 52, 52, 52, 53, 52, 54, 52, 55, 52, 56, 52, 57, 53, 48, 53, 49, 53, 50, 53, 51, 53, 52, 53, 53, 53, 54, 53, 55, 53, 56, 53, 57, 54, 48, 54, 49, 54, 50, 54, 51, 54, 52, 54, 53, 54, 54, 54, 55, 54, 56, 54, 57, 55, 48, 55, 49, 55, 50, 55, 51, 55, 52, 55, 53, 55, 54, 55, 55, 55, 56, 55, 57, 56, 48, 56, 49, 56, 50, 56, 51, 56, 52, 56, 53, 56, 54, 56, 55, 56, 56, 56, 57, 57, 48, 57, 49, 57, 50, 57, 51, 57, 52, 57, 53, 57, 54, 57, 55, 57, 56, 57, 57])), .l 117], none⟩,
      ⟨.l 119, .p .mv, [.v 15], none⟩,
      ⟨.l 120, .p .ixs, [.k (.m (.s [48, 48, 48, 49, 48, 50, 48, 51, 48, 52, 48, 53, 48, 54, 48, 55, 48, 56, 48, 57, 49, 48, 49, 49, 49, 50, 49, 51, 49, 52, 49, 53, 49, 54, 49, 55, 49, 56, 49, 57, 50, 48, 50, 49, 50, 50, 50, 51, 50, 52, 50, 53, 50, 54, 50, 55, 50, 56, 50, 57, 51, 48, 51, 49, 51, 50, 51, 51, 51, 52, 51, 53, 51, 54, 51, 55, 51, 56, 51, 57, 52, 48, 52, 49, 52, 50, 52, 51, 52, 52, 52, 53, 52, 54, 52, 55, 52, 56, 52, 57, 53, 48, 53, 49, 53, 50, 53, 51, 53, 52, 53, 53, 53, 54, 53, 55, 53, 56, 53, 57, 54, 48, 54, 49, 54, 50, 54, 51, 54, 52, 54, 53, 54, 54, 54, 55, 54, 56, 54, 57, 55, 48, 55, 49, 55, 50, 55, 51, 55, 52, 55, 53, 55, 54, 55, 55, 55, 56, 55, 57, 56, 48, 56, 49, 56, 50, 56, 51, 56, 52, 56, 53, 56, 54, 56, 55, 56, 56, 56, 57, 57, 48, 57, 49, 57, 50, 57, 51, 57, 52, 57, 53, 57, 54, 57, 55, 57, 56, 57, 57])), .l 119], none⟩,
      ⟨.l 121, .p (.ixa 1), [.l 110, .l 112], none⟩,
      ⟨.no, .l (.st 1), [.l 121, .l 118], none⟩,
      ⟨.l 122, .p (.ixa 1), [.l 113, .l 115], none⟩,
      ⟨.no, .l (.st 1), [.l 122, .l 120], none⟩])
    (.seq
    (.reg [⟨.l 123, .p .mv, [.v 0], none⟩,
      ⟨.l 124, .p .mv, [.v 4], none⟩,
      ⟨.l 125, .p (.bin .sub), [.l 124, .k (.m (.i .i64 3))], none⟩,
      ⟨.l 126, .p .mv, [.v 0], none⟩,
      ⟨.l 127, .p .mv, [.v 4], none⟩,
      ⟨.l 128, .p (.bin .sub), [.l 127, .k (.m (.i .i64 4))], none⟩,
      ⟨.l 129, .p .mv, [.v 14], none⟩,
      ⟨.l 130, .p (.bin .add), [.l 129, .k (.m (.i .u32 1))], none⟩,
      ⟨.l 131, .p .ixs, [.k (.m (.s [48, 48, 48, 49, 48, 50, 48, 51, 48, 52, 48, 53, 48, 54, 48, 55, 48, 56, 48, 57, 49, 48, 49, 49, 49, 50, 49, 51, 49, 52, 49, 53, 49, 54, 49, 55, 49, 56, 49, 57, 50, 48, 50, 49, 50, 50, 50, 51, 50, 52, 50, 53, 50, 54, 50, 55, 50, 56, 50, 57, 51, 48, 51, 49, 51, 50, 51, 51, 51, 52, 51, 53, 51, 54, 51, 55, 51, 56, 51, 57, 52, 48, 52, 49, 52, 50, 52, 51, 52, 52, 52, 53, 52, 54, 52, 55, 52, 56, 52, 57, 53, 48, 53, 49, 53, 50, 53, 51, 53, 52, 53, 53, 53, 54, 53, 55, 53, 56, 53, 57, 54, 48, 54, 49, 54, 50, 54, 51, 54, 52, 54, 53, 54, 54, 54, 55, 54, 56, 54, 57, 55, 48, 55, 49, 55, 50, 55, 51, 55, 52, 55, 53, 55, 54, 55, 55, 55, 56, 55, 57, 56, 48, 56, 49, 56, 50, 56, 51, 56, 52, 56, 53, 56, 54, 56, 55, 56, 56, 56, 57, 57, 48, 57, 49, 57, 50, 57, 51, 57, 52, 57, 53, 57, 54, 57, 55, 57, 56, 57, 57])), .l 130], none⟩,
      ⟨.l 132, .p .mv, [.v 14], none⟩,
      ⟨.l 133, .p .ixs, [.k (.m (.s [48, 48, 48, 49, 48, 50, 48, 51, 48, 52, 48, 53, 48, 54, 48, 55, 48, 56, 48, 57, 49, 48, 49, 49, 49, 50, 49, 51, 49, 52, 49, 53, 49, 54, 49, 55, 49, 56, 49, 57, 50, 48, 50, 49, 50, 50, 50, 51, 50, 52, 50, 53, 50, 54, 50, 55, 50, 56, 50, 57, 51, 48, 51, 49, 51, 50, 51, 51, 51, 52, 51, 53, 51, 54, 51, 55, 51, 56, 51, 57, 52, 48, 52, 49, 52, 50, 52, 51, 52, 52, 52, 53, 52, 54, 52, 55, 52, 56, 52, 57, 53, 48, 53, 49, 53, 50, 53, 51, 53, 52, 53, 53, 53, 54, 53, 55, 53, 56, 53, 57, 54, 48, 54, 49, 54, 50, 54, 51, 54, 52, 54, 53, 54, 54, 54, 55, 54, 56, 54, 57, 55, 48, 55, 49, 55, 50, 55, 51, 55, 52, 55, 53, 55, 54, 55, 55, 55, 56, 55, 57, 56, 48, 56, 49, 56, 50, 56, 51, 56, 52, 56, 53, 56, 54, 56, 55, 56, 56, 56, 57, 57, 48, 57, 49, 57, 50, 57, 51, 57, 52, 57, 53, 57, 54, 57, 55, 57, 56, 57, 57])), .l 132], none⟩,
      ⟨.l 134, .p (.ixa 1), [.l 123, .l 125], none⟩,
      ⟨.no, .l (.st 1), [.l 134, .l 131], none⟩,
      ⟨.l 135, .p (.ixa 1), [.l 126, .l 128], none⟩,
      ⟨.no, .l (.st 1), [.l 135, .l 133], none⟩])
    (.reg [⟨.l 136, .p .mv, [.v 4], none⟩,
      ⟨.l 137, .p (.bin .sub), [.l 136, .k (.m (.i .i64 4))], none⟩,
      ⟨.v 4, .p .mv, [.l 137], none⟩]))))))
    .skip))
  (.seq
  (.seq
  (.reg [⟨.l 138, .p .mv, [.v 4], none⟩,
    ⟨.v 139, .p (.bin .geq), [.l 138, .k (.m (.i .i64 2))], none⟩])
  (.ite (.v 139)
    (.seq
    (.reg [⟨.l 140, .p .mv, [.v 12], none⟩,
      ⟨.l 141, .p (.bin .rem), [.l 140, .k (.m (.i .u32 100))], none⟩,
      ⟨.l 142, .p (.bin .mul), [.l 141, .k (.m (.i .u32 2))], none⟩,
      ⟨.v 16, .p .mv, [.l 142], none⟩])
    (.seq
    (.reg [⟨.l 143, .p .mv, [.v 12], none⟩,
      ⟨.l 144, .p (.bin .quo), [.l 143, .k (.m (.i .u32 100))], none⟩,
      ⟨.v 12, .p .mv, [.l 144], none⟩])
    (.seq
    (.reg [⟨.l 145, .p .mv, [.v 0], none⟩,
      ⟨.l 146, .p .mv, [.v 4], none⟩,
      ⟨.l 147, .p (.bin .sub), [.l 146, .k (.m (.i .i64 1))], none⟩,
      ⟨.l 148, .p .mv, [.v 0], none⟩,
      ⟨.l 149, .p .mv, [.v 4], none⟩,
      ⟨.l 150, .p (.bin .sub), [.l 149, .k (.m (.i .i64 2))], none⟩,
      ⟨.l 151, .p .mv, [.v 16], none⟩,
      ⟨.l 152, .p (.bin .add), [.l 151, .k (.m (.i .u32 1))], none⟩,
      ⟨.l 153, .p .ixs, [.k (.m (.s [48, 48, 48, 49, 48, 50, 48, 51, 48, 52, 48, 53, 48, 54, 48, 55, 48, 56, 48, 57, 49, 48, 49, 49, 49, 50, 49, 51, 49, 52, 49, 53, 49, 54, 49, 55, 49, 56, 49, 57, 50, 48, 50, 49, 50, 50, 50, 51, 50, 52, 50, 53, 50, 54, 50, 55, 50, 56, 50, 57, 51, 48, 51, 49, 51, 50, 51, 51, 51, 52, 51, 53, 51, 54, 51, 55, 51, 56, 51, 57, 52, 48, 52, 49, 52, 50, 52, 51, 52, 52, 52, 53, 52, 54, 52, 55, 52, 56, 52, 57, 53, 48, 53, 49, 53, 50, 53, 51, 53, 52, 53, 53, 53, 54, 53, 55, 53, 56, 53, 57, 54, 48, 54, 49, 54, 50, 54, 51, 54, 52, 54, 53, 54, 54, 54, 55, 54, 56, 54, 57, 55, 48, 55, 49, 55, 50, 55, 51, 55, 52, 55, 53, 55, 54, 55, 55, 55, 56, 55, 57, 56, 48, 56, 49, 56, 50, 56, 51, 56, 52, 56, 53, 56, 54, 56, 55, 56, 56, 56, 57, 57, 48, 57, 49, 57, 50, 57, 51, 57, 52, 57, 53, 57, 54, 57, 55, 57, 56, 57, 57])), .l 152], none⟩,
      ⟨.l 154, .p .mv, [.v 16], none⟩,
      ⟨.l 155, .p .ixs, [.k (.m (.s [48, 48, 48, 49, 48, 50, 48, 51, 48, 52, 48, 53, 48, 54, 48, 55, 48, 56, 48, 57, 49, 48, 49, 49, 49, 50, 49, 51, 49, 52, 49, 53, 49, 54, 49, 55, 49, 56, 49, 57, 50, 48, 50, 49, 50, 50, 50, 51, 50, 52, 50, 53, 50, 54, 50, 55, 50, 56, 50, 57, 51, 48, 51, 49, 51, 50, 51, 51, 51, 52, 51, 53, 51, 54, 51, 55, 51, 56, 51, 57, 52, 48, 52, 49, 52, 50, 52, 51, 52, 52, 52, 53, 52, 54, 52, 55, 52, 56, 52, 57, 53, 48, 53, 49, 53, 50, 53, 51, 53, 52, 53, 53, 53, 54, 53, 55, 53, 56, 53, 57, 54, 48, 54, 49, 54, 50, 54, 51, 54, 52, 54, 53, 54, 54, 54, 55, 54, 56, 54, 57, 55, 48, 55, 49, 55, 50, 55, 51, 55, 52, 55, 53, 55, 54, 55, 55, 55, 56, 55, 57, 56, 48, 56, 49, 56, 50, 56, 51, 56, 52, 56, 53, 56, 54, 56, 55, 56, 56, 56, 57, 57, 48, 57, 49, 57, 50, 57, 51, 57, 52, 57, 53, 57, 54, 57, 55, 57, 56, 57, 57])), .l 154], none⟩,
      ⟨.l 156, .p (.ixa 1), [.l 145, .l 147], none⟩,
      ⟨.no, .l (.st 1), [.l 156, .l 153], none⟩,
      ⟨.l 157, .p (.ixa 1), [.l 148, .l 150], none⟩,
      ⟨.no, .l (.st 1), [.l 157, .l 155], none⟩])
    (.reg [⟨.l 158, .p .mv, [.v 4], none⟩,
      ⟨.l 159, .p (.bin .sub), [.l 158, .k (.m (.i .i64 2))], none⟩,
      ⟨.v 4, .p .mv, [.l 159], none⟩]))))
    .skip))
  (.seq
  (.reg [⟨.l 160, .p .mv, [.v 4], none⟩,
    ⟨.v 161, .p (.bin .gtr), [.l 160, .k (.m (.i .i64 0))], none⟩])
  (.ite (.v 161)
    (.reg [⟨.l 162, .p .mv, [.v 0], none⟩,
      ⟨.l 163, .p .mv, [.v 12], none⟩,
      ⟨.l 164, .p (.bin .add), [.k (.m (.i .u32 48)), .l 163], none⟩,
      ⟨.l 165, .p (.cv .u8), [.l 164], none⟩,
      ⟨.l 166, .p (.ixa 1), [.l 162, .k (.m (.i .i64 0))], none⟩,
      ⟨.no, .l (.st 1), [.l 166, .l 165], none⟩])
    .skip)))))))⟩

/- strings.splitSeq$1 -/
def c124_B0 : C :=
  (.seq
  (.seq
  (.reg [⟨.l 12, .r (.ld false 1), [.v 2], none⟩,
    ⟨.l 13, .p (.len true), [.l 12], none⟩,
    ⟨.v 14, .p (.bin .gtr), [.l 13, .k (.m (.i .i64 0))], none⟩])
  (.ite (.v 14)
    .skip
    (.ex 0)))
  (.blk 1
  (.seq
  (.reg [⟨.l 16, .r (.ld false 1), [.v 2], none⟩,
    ⟨.l 17, .l (.cal 125), [.l 16], none⟩,
    ⟨.l 15, .p .mv, [.l 17], none⟩,
    ⟨.l 18, .p (.ext 0), [.l 15], none⟩,
    ⟨.l 19, .p (.ext 1), [.l 15], none⟩,
    ⟨.l 5, .p .mv, [.l 18], none⟩,
    ⟨.v 6, .p .mv, [.l 19], none⟩])
  (.seq
  (.seq
  (.reg [⟨.l 20, .p .mv, [.v 0], none⟩,
    ⟨.l 21, .r (.ld false 1), [.v 2], none⟩,
    ⟨.l 22, .p .mv, [.v 6], none⟩,
    ⟨.l 23, .p (.slc 0 false true false), [.l 21, .l 22], none⟩,
    ⟨.l 24, .l .cav, [.l 20, .l 23], none⟩,
    ⟨.v 25, .p (.un .not), [.l 24], none⟩])
  (.ite (.v 25)
    .ret
    .skip))
  (.reg [⟨.l 26, .r (.ld false 1), [.v 2], none⟩,
    ⟨.l 27, .p .mv, [.v 6], none⟩,
    ⟨.l 28, .p (.slc 0 true false false), [.l 26, .l 27], none⟩,
    ⟨.no, .l (.st 1), [.v 2, .l 28], none⟩])))))
def c124_L0 : C := .loop [1, 3, 6, 11, 14, 25] c124_B0
def c124_B1 : C :=
  (.blk 3
  (.seq
  (.reg [⟨.l 29, .r (.ld false 1), [.v 2], none⟩,
    ⟨.l 30, .r (.ld false 1), [.v 1], none⟩,
    ⟨.l 31, .l (.cal 126), [.l 29, .l 30], none⟩,
    ⟨.v 7, .p .mv, [.l 31], none⟩])
  (.seq
  (.seq
  (.reg [⟨.l 32, .p .mv, [.v 7], none⟩,
    ⟨.v 33, .p (.bin .lss), [.l 32, .k (.m (.i .i64 0))], none⟩])
  (.ite (.v 33)
    (.ex 2)
    .skip))
  (.seq
  (.reg [⟨.l 34, .r (.ld false 1), [.v 2], none⟩,
    ⟨.l 35, .p .mv, [.v 7], none⟩,
    ⟨.l 36, .r (.ld false 1), [.v 3], none⟩,
    ⟨.l 37, .p (.bin .add), [.l 35, .l 36], none⟩,
    ⟨.l 38, .p (.slc 0 false true false), [.l 34, .l 37], none⟩,
    ⟨.v 8, .p .mv, [.l 38], none⟩])
  (.seq
  (.seq
  (.reg [⟨.l 39, .p .mv, [.v 0], none⟩,
    ⟨.l 40, .p .mv, [.v 8], none⟩,
    ⟨.l 41, .l .cav, [.l 39, .l 40], none⟩,
    ⟨.v 42, .p (.un .not), [.l 41], none⟩])
  (.ite (.v 42)
    .ret
    .skip))
  (.reg [⟨.l 43, .r (.ld false 1), [.v 2], none⟩,
    ⟨.l 44, .p .mv, [.v 7], none⟩,
    ⟨.l 45, .r (.ld false 1), [.v 1], none⟩,
    ⟨.l 46, .p (.len true), [.l 45], none⟩,
    ⟨.l 47, .p (.bin .add), [.l 44, .l 46], none⟩,
    ⟨.l 48, .p (.slc 0 true false false), [.l 43, .l 47], none⟩,
    ⟨.no, .l (.st 1), [.v 2, .l 48], none⟩]))))))
def c124_L1 : C := .loop [7, 8, 11, 33, 42] c124_B1
def c124 : F := ⟨4, [],
  (.seq
  (.seq
  (.reg [⟨.l 9, .r (.ld false 1), [.v 1], none⟩,
    ⟨.l 10, .p (.len true), [.l 9], none⟩,
    ⟨.v 11, .p (.bin .eql), [.l 10, .k (.m (.i .i64 0))], none⟩])
  (.ite (.v 11)
    (.seq
    (.blk 0
    c124_L0)
    .ret)
    .skip))
  (.seq
  (.blk 2
  c124_L1)
  (.reg [⟨.l 49, .p .mv, [.v 0], none⟩,
    ⟨.l 50, .r (.ld false 1), [.v 2], none⟩,
    ⟨.l 51, .l .cav, [.l 49, .l 50], none⟩])))⟩

/- strings.Index -/
def c126 : F := ⟨2, [.t 4],
  (.seq
  (.reg [⟨.v 4, .p .mv, [.k (.m (.i .i64 0))], none⟩])
  (.seq
  (.reg [⟨.l 5, .p .mv, [.v 0], none⟩,
    ⟨.l 6, .p .mv, [.v 1], none⟩,
    ⟨.l 7, .l (.cal 140), [.l 5, .l 6], none⟩,
    ⟨.v 4, .p .mv, [.l 7], none⟩])
  .ret))⟩

/- strconv.syntaxError -/
def c128 : F := ⟨2, [.t 4],
  (.seq
  (.reg [⟨.v 4, .p .mv, [.k (.m (.nl 0))], none⟩])
  (.seq
  (.reg [⟨.l 5, .p .mv, [.v 0], none⟩,
    ⟨.l 6, .p .mv, [.v 1], none⟩,
    ⟨.l 7, .l (.cal 142), [.l 6], none⟩,
    ⟨.l 8, .p .mv, [], none⟩,
    ⟨.l 9, .p (.build [.m (.s []), .m (.s []), .m (.nl 3)] [(0, 1), (1, 1), (2, 1)]), [.l 5, .l 7, .l 8], none⟩,
    ⟨.v 10, .l (.bxs 156 3 1), [.l 9], none⟩,
    ⟨.v 4, .p .mv, [.v 10], none⟩])
  .ret))⟩

/- strconv.rangeError -/
def c129 : F := ⟨2, [.t 4],
  (.seq
  (.reg [⟨.v 4, .p .mv, [.k (.m (.nl 0))], none⟩])
  (.seq
  (.reg [⟨.l 5, .p .mv, [.v 0], none⟩,
    ⟨.l 6, .p .mv, [.v 1], none⟩,
    ⟨.l 7, .l (.cal 142), [.l 6], none⟩,
    ⟨.l 8, .p .mv, [], none⟩,
    ⟨.l 9, .p (.build [.m (.s []), .m (.s []), .m (.nl 3)] [(0, 1), (1, 1), (2, 1)]), [.l 5, .l 7, .l 8], none⟩,
    ⟨.v 10, .l (.bxs 156 3 1), [.l 9], none⟩,
    ⟨.v 4, .p .mv, [.v 10], none⟩])
  .ret))⟩

/- strconv.baseError -/
def c130 : F := ⟨3, [.t 6],
  (.seq
  (.reg [⟨.v 6, .p .mv, [.k (.m (.nl 0))], none⟩])
  (.seq
  (.reg [⟨.l 7, .p .mv, [.v 0], none⟩,
    ⟨.l 8, .p .mv, [.v 1], none⟩,
    ⟨.l 9, .l (.cal 142), [.l 8], none⟩,
    ⟨.l 10, .p .mv, [.v 2], none⟩,
    ⟨.l 11, .l (.cal 51), [.l 10], none⟩,
    ⟨.l 12, .p (.bin .add), [.k (.m (.s [105, 110, 118, 97, 108, 105, 100, 32, 98, 97, 115, 101, 32])), .l 11], none⟩,
    ⟨.l 13, .l (.cal 143), [.l 12], none⟩,
    ⟨.l 14, .p (.build [.m (.s []), .m (.s []), .m (.nl 3)] [(0, 1), (1, 1), (2, 1)]), [.l 7, .l 9, .l 13], none⟩,
    ⟨.v 15, .l (.bxs 156 3 1), [.l 14], none⟩,
    ⟨.v 6, .p .mv, [.v 15], none⟩])
  .ret))⟩

/- strconv.bitSizeError -/
def c131 : F := ⟨3, [.t 6],
  (.seq
  (.reg [⟨.v 6, .p .mv, [.k (.m (.nl 0))], none⟩])
  (.seq
  (.reg [⟨.l 7, .p .mv, [.v 0], none⟩,
    ⟨.l 8, .p .mv, [.v 1], none⟩,
    ⟨.l 9, .l (.cal 142), [.l 8], none⟩,
    ⟨.l 10, .p .mv, [.v 2], none⟩,
    ⟨.l 11, .l (.cal 51), [.l 10], none⟩,
    ⟨.l 12, .p (.bin .add), [.k (.m (.s [105, 110, 118, 97, 108, 105, 100, 32, 98, 105, 116, 32, 115, 105, 122, 101, 32])), .l 11], none⟩,
    ⟨.l 13, .l (.cal 143), [.l 12], none⟩,
    ⟨.l 14, .p (.build [.m (.s []), .m (.s []), .m (.nl 3)] [(0, 1), (1, 1), (2, 1)]), [.l 7, .l 9, .l 13], none⟩,
    ⟨.v 15, .l (.bxs 156 3 1), [.l 14], none⟩,
    ⟨.v 6, .p .mv, [.v 15], none⟩])
  .ret))⟩

/- internal/strconv.log10Pow2 -/
def c135 : F := ⟨1, [.t 2],
  (.seq
  (.reg [⟨.v 2, .p .mv, [.k (.m (.i .i64 0))], none⟩])
  (.seq
  (.reg [⟨.l 3, .p .mv, [.v 0], none⟩,
    ⟨.l 4, .p (.bin .mul), [.l 3, .k (.m (.i .i64 78913))], none⟩,
    ⟨.l 5, .p (.bin .shr), [.l 4, .k (.m (.i .u64 18))], none⟩,
    ⟨.v 2, .p .mv, [.l 5], none⟩])
  .ret))⟩

/- internal/strconv.bool2[int] -/
def c136 : F := ⟨1, [.t 2],
  (.seq
  (.reg [⟨.v 2, .p .mv, [.k (.m (.i .i64 0))], none⟩])
  (.seq
  (.seq
  (.reg [⟨.v 3, .p .mv, [.v 0], none⟩])
  (.ite (.v 3)
    (.seq
    (.reg [⟨.v 2, .p .mv, [.k (.m (.i .i64 1))], none⟩])
    .ret)
    .skip))
  (.seq
  (.reg [⟨.v 2, .p .mv, [.k (.m (.i .i64 0))], none⟩])
  .ret)))⟩


end Go.Mx.Tryz
