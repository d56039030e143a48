/- Which functions run in shared memory; the package variables that are read; what the code of a round is held to. -/
import Derived.Test.YtfllcbohggcmfaaGreatDoorBq
import Derived.Test.YtfllcbohggcmfaaGreatDoorProg
set_option maxRecDepth 100000
namespace Go.Mx.Tryz

def g1 : List I := [.i .u64 1, .i .u64 10, .i .u64 100, .i .u64 1000, .i .u64 10000, .i .u64 100000, .i .u64 1000000, .i .u64 10000000, .i .u64 100000000, .i .u64 1000000000, .i .u64 10000000000, .i .u64 100000000000, .i .u64 1000000000000, .i .u64 10000000000000, .i .u64 100000000000000, .i .u64 1000000000000000, .i .u64 10000000000000000, .i .u64 100000000000000000, .i .u64 1000000000000000000, .i .u64 10000000000000000000]
def g2 : List I := [.er]
def g3 : List I := [.er]
def g5 : List I := [.i .u8 128, .i .u8 191, .i .u8 160, .i .u8 191, .i .u8 128, .i .u8 159, .i .u8 144, .i .u8 191, .i .u8 128, .i .u8 143, .i .u8 0, .i .u8 0, .i .u8 0, .i .u8 0, .i .u8 0, .i .u8 0, .i .u8 0, .i .u8 0, .i .u8 0, .i .u8 0, .i .u8 0, .i .u8 0, .i .u8 0, .i .u8 0, .i .u8 0, .i .u8 0, .i .u8 0, .i .u8 0, .i .u8 0, .i .u8 0, .i .u8 0, .i .u8 0]
def g6 : List I := [.i .u8 0, .i .u8 1, .i .u8 28, .i .u8 2, .i .u8 29, .i .u8 14, .i .u8 24, .i .u8 3, .i .u8 30, .i .u8 22, .i .u8 20, .i .u8 15, .i .u8 25, .i .u8 17, .i .u8 4, .i .u8 8, .i .u8 31, .i .u8 27, .i .u8 13, .i .u8 23, .i .u8 21, .i .u8 19, .i .u8 16, .i .u8 7, .i .u8 26, .i .u8 12, .i .u8 18, .i .u8 6, .i .u8 11, .i .u8 5, .i .u8 10, .i .u8 9]
def g7 : List I := [.i .u8 0, .i .u8 1, .i .u8 56, .i .u8 2, .i .u8 57, .i .u8 49, .i .u8 28, .i .u8 3, .i .u8 61, .i .u8 58, .i .u8 42, .i .u8 50, .i .u8 38, .i .u8 29, .i .u8 17, .i .u8 4, .i .u8 62, .i .u8 47, .i .u8 59, .i .u8 36, .i .u8 45, .i .u8 43, .i .u8 51, .i .u8 22, .i .u8 53, .i .u8 39, .i .u8 33, .i .u8 30, .i .u8 24, .i .u8 18, .i .u8 12, .i .u8 5, .i .u8 63, .i .u8 55, .i .u8 48, .i .u8 27, .i .u8 60, .i .u8 41, .i .u8 37, .i .u8 16, .i .u8 46, .i .u8 35, .i .u8 44, .i .u8 21, .i .u8 52, .i .u8 32, .i .u8 23, .i .u8 11, .i .u8 54, .i .u8 26, .i .u8 40, .i .u8 15, .i .u8 34, .i .u8 20, .i .u8 31, .i .u8 10, .i .u8 25, .i .u8 14, .i .u8 19, .i .u8 9, .i .u8 13, .i .u8 8, .i .u8 7, .i .u8 6]
def mkr (n : Nat) : Bool := let _ := n; false

def shL (n : Nat) : Bool := match Nat.beq n 19 with | true => true | false => match Nat.beq n 28 with | true => true | false => match Nat.beq n 30 with | true => true | false => match Nat.beq n 31 with | true => true | false => match Nat.beq n 32 with | true => true | false => match Nat.beq n 39 with | true => true | false => match Nat.beq n 44 with | true => true | false => match Nat.beq n 49 with | true => true | false => match Nat.beq n 57 with | true => true | false => match Nat.beq n 58 with | true => true | false => match Nat.beq n 68 with | true => true | false => match Nat.beq n 69 with | true => true | false => match Nat.beq n 73 with | true => true | false => match Nat.beq n 77 with | true => true | false => match Nat.beq n 78 with | true => true | false => match Nat.beq n 79 with | true => true | false => match Nat.beq n 80 with | true => true | false => match Nat.beq n 81 with | true => true | false => match Nat.beq n 82 with | true => true | false => match Nat.beq n 83 with | true => true | false => match Nat.beq n 84 with | true => true | false => match Nat.beq n 91 with | true => true | false => match Nat.beq n 93 with | true => true | false => match Nat.beq n 97 with | true => true | false => match Nat.beq n 108 with | true => true | false => match Nat.beq n 110 with | true => true | false => match Nat.beq n 111 with | true => true | false => match Nat.beq n 112 with | true => true | false => match Nat.beq n 126 with | true => true | false => Nat.beq n yN

def sh (n : Nat) : Bool := match Nat.ble 2000000000 n with | true => mkr n | false => shL n

def gl (n : Nat) : Option (List I) := match Nat.beq n 1 with | true => some g1 | false => match Nat.beq n 2 with | true => some g2 | false => match Nat.beq n 3 with | true => some g3 | false => match Nat.beq n 5 with | true => some g5 | false => match Nat.beq n 6 with | true => some g6 | false => match Nat.beq n 7 with | true => some g7 | false => none

end Go.Mx.Tryz
namespace Go.Mx
abbrev drawM : Bool := false
def RelC (hi : Hint) (dr : Nat → List Nat) (a : Code) (c : C) : Prop := cmpC Go.Proofs.Tryz.prog hi Tryz.gl Tryz.sh dr a = some c
end Go.Mx
