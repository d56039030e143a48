/- strconv.Itoa. -/
import Derived.Test.YtjjpbhhgeddgjaaGreatDoorIto
import Derived.Test.YtjjpbhhgeddgjaaGreatDoorDec
set_option linter.unusedSimpArgs false
set_option linter.unusedVariables false
set_option linter.unusedSectionVars false
set_option maxRecDepth 100000
namespace Go.Mx.Tryz
open Go.Lib
theorem row24 (nd : Nat) (h : nd <= 23) : ([[V.m (.i .u8 0)],[V.m (.i .u8 0)],[V.m (.i .u8 0)],[V.m (.i .u8 0)],[V.m (.i .u8 0)],[V.m (.i .u8 0)],[V.m (.i .u8 0)],[V.m (.i .u8 0)],[V.m (.i .u8 0)],[V.m (.i .u8 0)],[V.m (.i .u8 0)],[V.m (.i .u8 0)],[V.m (.i .u8 0)],[V.m (.i .u8 0)],[V.m (.i .u8 0)],[V.m (.i .u8 0)],[V.m (.i .u8 0)],[V.m (.i .u8 0)],[V.m (.i .u8 0)],[V.m (.i .u8 0)],[V.m (.i .u8 0)],[V.m (.i .u8 0)],[V.m (.i .u8 0)],[V.m (.i .u8 0)]] : List (List V)) = DY [[.m (.i .u8 0)]] (Array.replicate nd 0) (List.replicate (23 - nd) [.m (.i .u8 0)]):=by
 unfold DY
 have : (Array.replicate nd (0 : UInt8)).toList.map Kh = List.replicate nd [.m (.i .u8 0)]:=by simp [Kh]
 rw [this,List.replicate_append_replicate]
 rw [show nd + (23 - nd) = 23 by omega]
 rfl
theorem QV (M : Mem) (x : V) : readX M .b2s [x] = (elems M.H x).bind fun es=>(BQ es).bind fun l=>some (.m (.s l)):=rfl
set_option maxHeartbeats 1000000 in
theorem AcB (n : Int) (h0 : -9223372036854775808 <= n) (h1 : n <= 9223372036854775807) (H : Hp) : Gives G 70 [.m (.i .i64 n),.m (.i .i64 10)] H (.m (.s (BC n))) H:=by
 refine Ak rfl rfl rfl rfl rfl ?_
 by_cases hs : 0 <= n /\ n < 100
 ·obtain ⟨u,rfl⟩ : ∃ u : Nat,n = u:=⟨n.toNat,by omega⟩
  have g:=Nl u (by omega) []
  rw [Ca]
  simp (contextual:=true) (maxSteps:=2000000) (disch:=omega) [AT,-Int.not_lt,-Int.not_le,-Nat.not_lt,-Nat.not_le,-List.map_take,hs.2,cl g]
 ·have hu1 : 1 <= n.natAbs:=by omega
  have hnd:=nDigits_le20 n.natAbs (by omega)
  have hnp:=nDigits_pos n.natAbs
  obtain ⟨d',v',hi,g2⟩:=AcC [[.m (.i .u8 0)]] (List.replicate (23 - nDigits n.natAbs) [.m (.i .u8 0)]) (Array.replicate (nDigits n.natAbs) 0) n.natAbs 24 152 0 false [] [] (by simp; omega) (by simpa using lt_pow_nDigits n.natAbs) (by omega) (by simpa using hnp) (by simp; omega) (by omega)
  simp only [Array.size_replicate,AdC,Ado,AdU,List.nil_append] at hi g2
  have hf:=ML hi
  have hsz:=hi.size
  generalize hN : nDigits n.natAbs = nd at *
  have g1:=fun H=>Uq n.natAbs hu1 (by omega) H
  simp only [hN] at g1
  have hb : ∀ c : Nat,BQ ((DY [[.m (.i .u8 (c : Int))]] d' (List.replicate (23 - nd) [.m (.i .u8 0)])).drop 1 |>.take nd) = some (Dy n.natAbs):=fun c=>by
   have:=HF [[.m (.i .u8 (c : Int))]] d' (List.replicate (23 - nd) [.m (.i .u8 0)])
   simp only [Ado,AdC,AdU,hsz] at this
   rw [this,Kl,hf]
  have hrow:=row24 nd (by omega)
  have e1 : ((1 : Int) + nd).toNat = 1 + nd:=by omega
  have e2 : ¬ 1 + nd = 24:=by omega
  have e3 : 1 + nd - 1 = nd:=by omega
  have e4 : 1 + (nd + (23 - nd)) = 24:=by omega
  have p0 : ∀ a : List V,nth (DY [a] d' (List.replicate (23 - nd) [.m (.i .u8 0)])) 0 = some a:=fun _=>rfl
  have s0 : ∀ a b : List V,AD (DY [a] d' (List.replicate (23 - nd) [.m (.i .u8 0)])) 0 b = some (DY [b] d' (List.replicate (23 - nd) [.m (.i .u8 0)])):=fun _ _=>rfl
  have hb0 : BQ ((DY [[.m (.i .u8 45)]] d' (List.replicate (23 - nd) [.m (.i .u8 0)])).take (1 + nd)) = some (45 :: Dy n.natAbs):=by
   have h:=hb 45
   have e : (DY [[V.m (.i .u8 45)]] d' (List.replicate (23 - nd) [.m (.i .u8 0)])).take (1 + nd) = [.m (.i .u8 45)] :: ((DY [[.m (.i .u8 45)]] d' (List.replicate (23 - nd) [.m (.i .u8 0)])).drop 1).take nd:=by
    rw [Nat.add_comm]; rfl
   rw [e]
   show gd (Nat.blt 45 256) ((BQ _).bind fun l=>some (45 :: l)) = _
   exact (congrArg (fun q=>gd (Nat.blt 45 256) (Option.bind q fun l=>some (45 :: l))) h)
  have hb1:=hb 0
  have eb : V.m (.i .u8 ((0 : Nat) : Int)) = .m (.i .u8 0):=rfl
  rw [eb] at hb1
  have en : n < 0 -> BC n = 45 :: Dy n.natAbs:=fun hn=>by
   have:=Db n.natAbs (by omega)
   rwa [show -((n.natAbs : Nat) : Int) = n by omega] at this
  have ep : ¬ n < 0 -> BC n = Dy n.natAbs:=fun hn=>by
   have:=Ca n.natAbs
   rwa [show ((n.natAbs : Nat) : Int) = n by omega] at this
  by_cases hn : n < 0
  ·have hneg : wr .u64 (-wr .u64 n) = (n.natAbs : Int):=by rw [Cq,Cq]; omega
   have hs0 : ¬ 0 <= n:=by omega
   simp (contextual:=true) (maxSteps:=2000000) (disch:=omega) [AT,-Int.not_lt,-Int.not_le,-Nat.not_lt,-Nat.not_le,-List.map_take,Ag,Ae,hs0,hn,hneg,cl (g1 _),hrow,e1,e2,e3,cl g2,Aa,hsz,p0,s0,QV,Cf,hb0,en hn,-List.drop_one]
  ·have hpos : wr .u64 n = (n.natAbs : Int):=by rw [Cq]; omega
   have hs0 : 0 <= n:=by omega
   have hs1 : ¬ n < 100:=by omega
   simp (contextual:=true) (maxSteps:=2000000) (disch:=omega) [AT,-Int.not_lt,-Int.not_le,-Nat.not_lt,-Nat.not_le,-List.map_take,Ag,Ae,hs0,hs1,hn,hpos,cl (g1 _),hrow,e1,e2,e3,cl g2,Aa,hsz,QV,Cf,hb1,ep hn,-List.drop_one]
theorem Acy (n : Int) (h0 : -9223372036854775808 <= n) (h1 : n <= 9223372036854775807) (H : Hp) : Gives G 47 [.m (.i .i64 n)] H (.m (.s (BC n))) H:=by
 refine Ak rfl rfl rfl rfl rfl ?_
 simp [cl (AcB n h0 h1 [])]
theorem Acx (n : Int) (h0 : -9223372036854775808 <= n) (h1 : n <= 9223372036854775807) (H : Hp) : Gives G 28 [.m (.i .i64 n)] H (.m (.s (BC n))) H:=by
 refine Ak rfl rfl rfl rfl rfl ?_
 simp [cl (Acy n h0 h1 [])]
end Go.Mx.Tryz
