/- Which functions run in shared memory; the package variables that are read; what the code of a round is held to. -/
import Derived.Test.YtbpkmkgnkpeefaaGreatDoorBq
import Derived.Test.YtbpkmkgnkpeefaaGreatDoorProg
set_option maxRecDepth 100000
namespace Go.Mx.Tryz

def g0 : List I:=[.i .i64 1,.i .i64 0,.i .i64 0,.i .i64 1,.i .i64 0,.i .i64 (-1),.i .i64 1,.i .i64 0,.i .i64 (-1),.i .i64 0,.i .i64 0,.i .i64 (-1),.i .i64 0,.i .i64 1,.i .i64 (-1),.i .i64 0,.i .i64 (-1),.i .i64 0,.i .i64 0,.i .i64 1,.i .i64 0,.i .i64 (-1),.i .i64 (-1),.i .i64 0,.i .i64 1,.i .i64 0,.i .i64 0,.i .i64 (-1),.i .i64 0,.i .i64 1,.i .i64 1,.i .i64 0]
def g1 : List I:=[.i .u64 1,.i .u64 10,.i .u64 100,.i .u64 1000,.i .u64 10000,.i .u64 100000,.i .u64 1000000,.i .u64 10000000,.i .u64 100000000,.i .u64 1000000000,.i .u64 10000000000,.i .u64 100000000000,.i .u64 1000000000000,.i .u64 10000000000000,.i .u64 100000000000000,.i .u64 1000000000000000,.i .u64 10000000000000000,.i .u64 100000000000000000,.i .u64 1000000000000000000,.i .u64 10000000000000000000]
def g2 : List I:=[.i .u8 0,.i .u8 1,.i .u8 28,.i .u8 2,.i .u8 29,.i .u8 14,.i .u8 24,.i .u8 3,.i .u8 30,.i .u8 22,.i .u8 20,.i .u8 15,.i .u8 25,.i .u8 17,.i .u8 4,.i .u8 8,.i .u8 31,.i .u8 27,.i .u8 13,.i .u8 23,.i .u8 21,.i .u8 19,.i .u8 16,.i .u8 7,.i .u8 26,.i .u8 12,.i .u8 18,.i .u8 6,.i .u8 11,.i .u8 5,.i .u8 10,.i .u8 9]
def g3 : List I:=[.i .u8 0,.i .u8 1,.i .u8 56,.i .u8 2,.i .u8 57,.i .u8 49,.i .u8 28,.i .u8 3,.i .u8 61,.i .u8 58,.i .u8 42,.i .u8 50,.i .u8 38,.i .u8 29,.i .u8 17,.i .u8 4,.i .u8 62,.i .u8 47,.i .u8 59,.i .u8 36,.i .u8 45,.i .u8 43,.i .u8 51,.i .u8 22,.i .u8 53,.i .u8 39,.i .u8 33,.i .u8 30,.i .u8 24,.i .u8 18,.i .u8 12,.i .u8 5,.i .u8 63,.i .u8 55,.i .u8 48,.i .u8 27,.i .u8 60,.i .u8 41,.i .u8 37,.i .u8 16,.i .u8 46,.i .u8 35,.i .u8 44,.i .u8 21,.i .u8 52,.i .u8 32,.i .u8 23,.i .u8 11,.i .u8 54,.i .u8 26,.i .u8 40,.i .u8 15,.i .u8 34,.i .u8 20,.i .u8 31,.i .u8 10,.i .u8 25,.i .u8 14,.i .u8 19,.i .u8 9,.i .u8 13,.i .u8 8,.i .u8 7,.i .u8 6]
def mkr (n : Nat) : Bool:=match Nat.beq n 2000000104 with | true=>true | false=>match Nat.beq n 2000000106 with | true=>true | false=>false

def shL (n : Nat) : Bool:=match Nat.beq n 58 with | true=>true | false=>match Nat.beq n 66 with | true=>true | false=>match Nat.beq n 67 with | true=>true | false=>match Nat.beq n 70 with | true=>true | false=>match Nat.beq n 99 with | true=>true | false=>match Nat.beq n 100 with | true=>true | false=>match Nat.beq n 104 with | true=>true | false=>match Nat.beq n 105 with | true=>true | false=>match Nat.beq n 106 with | true=>true | false=>match Nat.beq n 107 with | true=>true | false=>match Nat.beq n 133 with | true=>true | false=>match Nat.beq n 134 with | true=>true | false=>match Nat.beq n 146 with | true=>true | false=>match Nat.beq n 162 with | true=>true | false=>match Nat.beq n 175 with | true=>true | false=>Nat.beq n yN

def sh (n : Nat) : Bool:=match Nat.ble 2000000000 n with | true=>mkr n | false=>shL n

def gl (n : Nat) : Option (List I):=match Nat.beq n 0 with | true=>some g0 | false=>match Nat.beq n 1 with | true=>some g1 | false=>match Nat.beq n 2 with | true=>some g2 | false=>match Nat.beq n 3 with | true=>some g3 | false=>none

end Go.Mx.Tryz
namespace Go.Mx
abbrev drawM : Bool:=true
def RelC (hi : Hint) (dr : Nat → List Nat) (a : Code) (c : C) : Prop:=cmpC Go.Proofs.Tryz.prog hi Tryz.gl Tryz.sh dr a = some c
end Go.Mx
