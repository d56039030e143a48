/- strconv.Itoa. -/
import Derived.Test.YtfllcbohggcmfaaGreatDoorIto
import Derived.Test.YtfllcbohggcmfaaGreatDoorDec
set_option linter.unusedSimpArgs false
set_option linter.unusedVariables false
set_option linter.unusedSectionVars false
set_option maxRecDepth 100000
namespace Go.Mx.Tryz
open Go.Lib

theorem row24 (nd : Nat) (h : nd ≤ 23) : ([[V.m (.i .u8 0)], [V.m (.i .u8 0)], [V.m (.i .u8 0)], [V.m (.i .u8 0)], [V.m (.i .u8 0)], [V.m (.i .u8 0)], [V.m (.i .u8 0)], [V.m (.i .u8 0)], [V.m (.i .u8 0)], [V.m (.i .u8 0)], [V.m (.i .u8 0)], [V.m (.i .u8 0)], [V.m (.i .u8 0)], [V.m (.i .u8 0)], [V.m (.i .u8 0)], [V.m (.i .u8 0)], [V.m (.i .u8 0)], [V.m (.i .u8 0)], [V.m (.i .u8 0)], [V.m (.i .u8 0)], [V.m (.i .u8 0)], [V.m (.i .u8 0)], [V.m (.i .u8 0)], [V.m (.i .u8 0)]] : List (List V)) = rowP [[.m (.i .u8 0)]] (Array.replicate nd 0) (List.replicate (23 - nd) [.m (.i .u8 0)]) := by
 unfold rowP
 have : (Array.replicate nd (0 : UInt8)).toList.map encB = List.replicate nd [.m (.i .u8 0)] := by simp [encB]
 rw [this, List.replicate_append_replicate]
 rw [show nd + (23 - nd) = 23 by omega]
 rfl
theorem rx_b2s (M : Mem) (x : V) : readX M .b2s [x] = (elems M.H x).bind fun es => (bytes? es).bind fun l => some (.m (.s l)) := rfl
set_option maxHeartbeats 1000000 in
theorem fmtInt (n : Int) (h0 : -9223372036854775808 ≤ n) (h1 : n ≤ 9223372036854775807) (H : Hp) : Gives G 62 [.m (.i .i64 n), .m (.i .i64 10)] H (.m (.s (itoaN n))) H := by
 refine gives_pur rfl rfl rfl rfl rfl ?_
 by_cases hs : 0 ≤ n ∧ n < 100
 ·obtain ⟨u, rfl⟩ : ∃ u : Nat, n = u := ⟨n.toNat, by omega⟩
  have g := small100 u (by omega) []
  rw [itoaN_pos]
  simp (contextual := true) (maxSteps := 2000000) (disch := omega) [test_cx, rest_cx, gcall_cx, gcav_cx, -Int.not_lt, -Int.not_le, -Nat.not_lt, -Nat.not_le, -List.map_take, gd_in, gd_and, hs.2, cl g]
 ·have hu1 : 1 ≤ n.natAbs := by omega
  have hnd := nDigits_le20 n.natAbs (by omega)
  have hnp := nDigits_pos n.natAbs
  obtain ⟨d', v', hi, g2⟩ := fmt10 [[.m (.i .u8 0)]] (List.replicate (23 - nDigits n.natAbs) [.m (.i .u8 0)]) (Array.replicate (nDigits n.natAbs) 0) n.natAbs 24 116 0 false [] [] (by simp; omega) (by simpa using lt_pow_nDigits n.natAbs) (by omega) (by simpa using hnp) (by simp; omega) (by omega)
  simp only [Array.size_replicate, List.length_nil, List.length_cons, Nat.zero_add, List.nil_append] at hi g2
  have hf := fmt_done hi
  have hsz := hi.size
  generalize hN : nDigits n.natAbs = nd at *
  have g1 := fun H => numDig n.natAbs hu1 (by omega) H
  simp only [hN] at g1
  have hb : ∀ c : Nat, bytes? ((rowP [[.m (.i .u8 (c : Int))]] d' (List.replicate (23 - nd) [.m (.i .u8 0)])).drop 1 |>.take nd) = some (decN n.natAbs) := fun c => by
   have := rowP_shown [[.m (.i .u8 (c : Int))]] d' (List.replicate (23 - nd) [.m (.i .u8 0)])
   simp only [List.length_cons, List.length_nil, Nat.zero_add, hsz] at this
   rw [this, bytes_enc, hf]
  have hrow := row24 nd (by omega)
  have e1 : ((1 : Int) + nd).toNat = 1 + nd := by omega
  have e2 : ¬ 1 + nd = 24 := by omega
  have e3 : 1 + nd - 1 = nd := by omega
  have e4 : 1 + (nd + (23 - nd)) = 24 := by omega
  have p0 : ∀ a : List V, nth (rowP [a] d' (List.replicate (23 - nd) [.m (.i .u8 0)])) 0 = some a := fun _ => rfl
  have s0 : ∀ a b : List V, setEl (rowP [a] d' (List.replicate (23 - nd) [.m (.i .u8 0)])) 0 b = some (rowP [b] d' (List.replicate (23 - nd) [.m (.i .u8 0)])) := fun _ _ => rfl
  have hb0 : bytes? ((rowP [[.m (.i .u8 45)]] d' (List.replicate (23 - nd) [.m (.i .u8 0)])).take (1 + nd)) = some (45 :: decN n.natAbs) := by
   have h := hb 45
   have e : (rowP [[V.m (.i .u8 45)]] d' (List.replicate (23 - nd) [.m (.i .u8 0)])).take (1 + nd) = [.m (.i .u8 45)] :: ((rowP [[.m (.i .u8 45)]] d' (List.replicate (23 - nd) [.m (.i .u8 0)])).drop 1).take nd := by
    rw [Nat.add_comm]; rfl
   rw [e]
   show gd (Nat.blt 45 256) ((bytes? _).bind fun l => some (45 :: l)) = _
   exact (congrArg (fun q => gd (Nat.blt 45 256) (Option.bind q fun l => some (45 :: l))) h)
  have hb1 := hb 0
  have eb : V.m (.i .u8 ((0 : Nat) : Int)) = .m (.i .u8 0) := rfl
  rw [eb] at hb1
  have en : n < 0 → itoaN n = 45 :: decN n.natAbs := fun hn => by
   have := itoaN_neg n.natAbs (by omega)
   rwa [show -((n.natAbs : Nat) : Int) = n by omega] at this
  have ep : ¬ n < 0 → itoaN n = decN n.natAbs := fun hn => by
   have := itoaN_pos n.natAbs
   rwa [show ((n.natAbs : Nat) : Int) = n by omega] at this
  by_cases hn : n < 0
  ·have hneg : wr .u64 (-wr .u64 n) = (n.natAbs : Int) := by rw [wr_mod_u64, wr_mod_u64]; omega
   have hs0 : ¬ 0 ≤ n := by omega
   simp (contextual := true) (maxSteps := 2000000) (disch := omega) [test_cx, rest_cx, gcall_cx, gcav_cx, -Int.not_lt, -Int.not_le, -Nat.not_lt, -Nat.not_le, -List.map_take, gd_in, gd_and, hs0, hn, hneg, cl (g1 _), hrow, e1, e2, e3, e4, cl g2, wr_i64, hsz, p0, s0, rx_b2s, elems_row, hb0, en hn, -List.drop_one]
  ·have hpos : wr .u64 n = (n.natAbs : Int) := by rw [wr_mod_u64]; omega
   have hs0 : 0 ≤ n := by omega
   have hs1 : ¬ n < 100 := by omega
   simp (contextual := true) (maxSteps := 2000000) (disch := omega) [test_cx, rest_cx, gcall_cx, gcav_cx, -Int.not_lt, -Int.not_le, -Nat.not_lt, -Nat.not_le, -List.map_take, gd_in, gd_and, hs0, hs1, hn, hpos, cl (g1 _), hrow, e1, e2, e3, e4, cl g2, wr_i64, hsz, rx_b2s, elems_row, hb1, ep hn, -List.drop_one]
theorem itoa_i (n : Int) (h0 : -9223372036854775808 ≤ n) (h1 : n ≤ 9223372036854775807) (H : Hp) : Gives G 50 [.m (.i .i64 n)] H (.m (.s (itoaN n))) H := by
 refine gives_pur rfl rfl rfl rfl rfl ?_
 simp [cl (fmtInt n h0 h1 [])]
theorem itoa_s (n : Int) (h0 : -9223372036854775808 ≤ n) (h1 : n ≤ 9223372036854775807) (H : Hp) : Gives G 29 [.m (.i .i64 n)] H (.m (.s (itoaN n))) H := by
 refine gives_pur rfl rfl rfl rfl rfl ?_
 simp [cl (itoa_i n h0 h1 [])]
end Go.Mx.Tryz
