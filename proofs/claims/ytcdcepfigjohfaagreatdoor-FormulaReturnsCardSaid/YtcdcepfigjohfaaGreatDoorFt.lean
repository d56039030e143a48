/- strconv.AppendInt on a row; the text of a formula. -/
import Derived.Test.YtcdcepfigjohfaaGreatDoorFq
import Derived.Test.YtcdcepfigjohfaaGreatDoorItoa
set_option linter.unusedSimpArgs false
set_option linter.unusedVariables false
set_option linter.unusedSectionVars false
set_option maxRecDepth 100000
namespace Go.Mx.Tryz
open Go.Lib

/-- Bytes as elements of a row. -/
def bytR (s : List Nat) : List (List V) := s.map fun c : Nat => [.m (.i .u8 (c : Int))]
@[simp] theorem bytR_len (s : List Nat) : (bytR s).length = s.length := by simp [bytR]
theorem bytR_app (s t : List Nat) : bytR s ++ bytR t = bytR (s ++ t) := by simp [bytR]
theorem bytR_of (l : List Nat) : (l.map fun c : Nat => [V.m (.i .u8 (Int.ofNat c))]) = bytR l := rfl
theorem bytes_bytR : ∀ (s : List Nat), (∀ c, c ∈ s → c < 256) → bytes? (bytR s) = some s
  | [], _ => rfl
  | c :: r, h => by
    show gd (Nat.blt c 256) ((bytes? (bytR r)).bind fun l => some (c :: l)) = _
    rw [blt_dec, decide_eq_true (h c (by simp)), bytes_bytR r fun x hx => h x (by simp [hx])]
    rfl
theorem bytR_ok (s : List Nat) : (bytR s).all (fun e => Nat.beq e.length 1 && e.all oneV) = true := by
  rw [List.all_eq_true]
  intro e he
  obtain ⟨c, _, rfl⟩ := List.mem_map.1 he
  rfl
theorem bytR_enc : ∀ (d : List UInt8), d.map encB = bytR (d.map UInt8.toNat)
  | [] => rfl
  | c :: r => by
    show encB c :: r.map encB = _
    rw [bytR_enc r]
    rfl
/-- The text so far, as a slice and as the row 0. -/
def oV (s : List Nat) : V := .sl 0 s.length 1 0 s.length false
def oR (s : List Nat) (b : Nat) : Row := .cs 5 1 (bytR s) b false
@[simp] theorem setC_oV (E L : Env) (M : Mem) (n : Nat) (s : List Nat) : setC ⟨E, L, M⟩ (.v n) (oV s) = some ⟨setE E n (oV s), L, M⟩ := rfl
@[simp] theorem noFa_oV (s : List Nat) : noFaV (oV s) = true := rfl
@[simp] theorem len_oV (s : List Nat) : pureX (.len false) [oV s] = some (.m (.i .i64 s.length)) := rfl
theorem app0 {H : Hp} {s t : List Nat} {b : Nat} (h : nth H 0 = some (oR s b)) (hl : s.length + t.length ≤ 140737488355328) (B : List (Nat × List V)) :
    appX ⟨B, H⟩ 5 1 1 (oV s) (bytR t) = some (oV (s ++ t), ⟨B, H.set 0 (oR (s ++ t) b)⟩) := by
  cases H with
  | nil => simp [nth] at h
  | cons r0 X =>
    have : r0 = oR s b := by simpa [nth] using h
    subst this
    cases t with
    | nil => rw [List.append_nil]; rfl
    | cons c t' =>
      have e : appX ⟨B, oR s b :: X⟩ 5 1 1 (oV s) (bytR (c :: t')) =
          gd (!false && Nat.beq 5 5 && Nat.beq 1 1 && Nat.beq 1 1 && Nat.beq 0 0 && Nat.beq s.length (bytR s).length && Nat.beq s.length (bytR s).length && Nat.ble (((bytR s).length + (bytR (c :: t')).length) * 1) 140737488355328 && (bytR (c :: t')).all fun e => Nat.beq e.length 1 && e.all oneV)
            ((setEl (oR s b :: X) 0 (.cs 5 1 (bytR s ++ bytR (c :: t')) b false)).bind fun H' => some (.sl 0 ((bytR s).length + (bytR (c :: t')).length) 1 0 ((bytR s).length + (bytR (c :: t')).length) false, ⟨B, H'⟩)) := rfl
      rw [e]
      have h1 : Nat.ble ((s.length + (c :: t').length) * 1) 140737488355328 = true := by rw [ble_dec]; simp only [decide_eq_true_eq]; omega
      simp only [bytR_ok, bytR_len, bytR_app, h1]
      simp [oV, oR, setEl, List.length_append]

theorem nth_lt0 {α : Type} {l : List α} {x : α} (h : nth l 0 = some x) : 0 < l.length := by
  rw [nth_get] at h
  exact (List.getElem?_eq_some_iff.1 h).1
theorem row24u (nd : Nat) (h : nd ≤ 24) : ([[V.m (.i .u8 0)], [V.m (.i .u8 0)], [V.m (.i .u8 0)], [V.m (.i .u8 0)], [V.m (.i .u8 0)], [V.m (.i .u8 0)], [V.m (.i .u8 0)], [V.m (.i .u8 0)], [V.m (.i .u8 0)], [V.m (.i .u8 0)], [V.m (.i .u8 0)], [V.m (.i .u8 0)], [V.m (.i .u8 0)], [V.m (.i .u8 0)], [V.m (.i .u8 0)], [V.m (.i .u8 0)], [V.m (.i .u8 0)], [V.m (.i .u8 0)], [V.m (.i .u8 0)], [V.m (.i .u8 0)], [V.m (.i .u8 0)], [V.m (.i .u8 0)], [V.m (.i .u8 0)], [V.m (.i .u8 0)]] : List (List V)) = rowP [] (Array.replicate nd 0) (List.replicate (24 - nd) [.m (.i .u8 0)]) := by
  unfold rowP
  have : (Array.replicate nd (0 : UInt8)).toList.map encB = List.replicate nd [.m (.i .u8 0)] := by simp [encB]
  rw [this, List.replicate_append_replicate]
  rw [show nd + (24 - nd) = 24 by omega]
  rfl
theorem appU {H : Hp} {s : List Nat} {b : Nat} (h : nth H 0 = some (oR s b)) (hl : s.length ≤ 1000000) (u : Nat) (hu : u < 18446744073709551616) :
    ∃ H', Gives G 103 [oV s, .m (.i .u64 u), .m (.i .i64 10)] H (oV (s ++ decN u)) H' ∧ nth H' 0 = some (oR (s ++ decN u) b) := by
  suffices hh : ∀ Q : V → Hp → Prop, (∀ H', nth H' 0 = some (oR (s ++ decN u) b) → Q (oV (s ++ decN u)) H') → Ret G 103 [oV s, .m (.i .u64 u), .m (.i .i64 10)] H Q by
    obtain ⟨v, H', h1, rfl, h2⟩ := gives_of_ret (hh (fun v H' => v = oV (s ++ decN u) ∧ nth H' 0 = some (oR (s ++ decN u) b)) fun H' h => ⟨rfl, h⟩)
    exact ⟨H', h1, h2⟩
  intro Q hQ
  refine ret_sh mono rfl rfl rfl rfl rfl ?_
  have hd := decN_len u hu
  have hH : 0 < H.length := nth_lt0 h
  by_cases h100 : u < 100
  · have g := small100 u h100
    have h100' : (u : Int) < 100 := by omega
    have ha : ∀ B, appX ⟨B, H⟩ 5 1 1 (oV s) ((decN u).map fun c : Nat => [V.m (.i .u8 (c : Int))]) = some (oV (s ++ decN u), ⟨B, H.set 0 (oR (s ++ decN u) b)⟩) := fun B => app0 (t := decN u) h (by omega) B
    have hq := hQ (H.set 0 (oR (s ++ decN u) b)) (by rw [nth_get]; simp [hH])
    have w : wr .i64 (u : Int) = u := wr_i64n u (by omega)
    simp [h100', w, cl (g _), ha, hq]
  · have h100' : ¬ (u : Int) < 100 := by omega
    have hnd := nDigits_le20 u (by omega)
    have hnp := nDigits_pos u
    obtain ⟨d', v', hi, g2⟩ := fmt10 [] (List.replicate (24 - nDigits u) [.m (.i .u8 0)]) (Array.replicate (nDigits u) 0) u 24 129 0 false H [] (by simp; omega) (by simpa using lt_pow_nDigits u) (by omega) (by simpa using hnp) (by simp; omega) (by omega)
    simp only [Array.size_replicate, List.length_nil] at hi g2
    have hf := fmt_done hi
    have hsz := hi.size
    generalize hN : nDigits u = nd at *
    have g1 := fun H => numDig u (by omega) hu H
    simp only [hN] at g1
    have hrow := row24u nd (by omega)
    have hb : (rowP [] d' (List.replicate (24 - nd) [.m (.i .u8 0)])).take nd = bytR (decN u) := by
      have := rowP_shown [] d' (List.replicate (24 - nd) [V.m (.i .u8 0)])
      simp only [List.length_nil, hsz, List.drop_zero] at this
      rw [this, bytR_enc, hf]
    have h2 : nth (H ++ [Row.cs 129 1 (rowP [] d' (List.replicate (24 - nd) [.m (.i .u8 0)])) 24 false]) 0 = some (oR s b) := by rw [nth_get, List.getElem?_append_left hH, ← nth_get]; exact h
    have ha := fun B => app0 (t := decN u) h2 (by omega) B
    have hq := hQ _ (show nth ((H ++ [Row.cs 129 1 (rowP [] d' (List.replicate (24 - nd) [.m (.i .u8 0)])) 24 false]).set 0 (oR (s ++ decN u) b)) 0 = some (oR (s ++ decN u) b) by rw [nth_get]; simp)
    have e1 : ¬ nd = 24 := by omega
    have e2 : nd + (24 - nd) = 24 := by omega
    have e3 : (nd : Int) ≤ 24 := by omega
    simp [h100', cl (g1 _), hrow, e1, e2, e3, cl g2, hsz, hb, ha, hq, elems_row, nth_mid]

theorem appI {H : Hp} {s : List Nat} {b : Nat} (h : nth H 0 = some (oR s b)) (hl : s.length ≤ 900000) (n : Int) (h0 : -4611686018427387904 ≤ n) (h1 : n ≤ 4611686018427387904) :
    ∃ H', Gives G 52 [oV s, .m (.i .i64 n), .m (.i .i64 10)] H (oV (s ++ itoaN n)) H' ∧ nth H' 0 = some (oR (s ++ itoaN n) b) := by
  have key : ∃ H', Gives G 69 [oV s, .m (.i .i64 n), .m (.i .i64 10)] H (oV (s ++ itoaN n)) H' ∧ nth H' 0 = some (oR (s ++ itoaN n) b) := by
    by_cases hn : n < 0
    · have en : itoaN n = 45 :: decN n.natAbs := by
        have := itoaN_neg n.natAbs (by omega)
        rwa [show -((n.natAbs : Nat) : Int) = n by omega] at this
      have hneg : wr .u64 (-wr .u64 n) = (n.natAbs : Int) := by rw [wr_mod_u64, wr_mod_u64]; omega
      have ha := fun B => app0 (t := [45]) h (by simp; omega) B
      have hH := nth_lt0 h
      obtain ⟨H', g, hg⟩ := appU (H := H.set 0 (oR (s ++ [45]) b)) (s := s ++ [45]) (b := b) (by rw [nth_get]; simp [hH]) (by simp; omega) n.natAbs (by omega)
      rw [List.append_assoc, List.singleton_append, ← en] at g hg
      refine ⟨H', ?_, hg⟩
      refine .of_ret (ret_sh mono rfl rfl rfl rfl rfl ?_)
      have hb : bytR [45] = [[V.m (.i .u8 45)]] := rfl
      rw [hb] at ha
      simp [hn, hneg, ha, cl g]
    · have ep : itoaN n = decN n.natAbs := by
        have := itoaN_pos n.natAbs
        rwa [show ((n.natAbs : Nat) : Int) = n by omega] at this
      have hpos : wr .u64 n = (n.natAbs : Int) := by rw [wr_mod_u64]; omega
      obtain ⟨H', g, hg⟩ := appU h (by omega) n.natAbs (by omega)
      rw [← ep] at g hg
      refine ⟨H', ?_, hg⟩
      refine .of_ret (ret_sh mono rfl rfl rfl rfl rfl ?_)
      simp [hn, hpos, cl g]
  obtain ⟨H', g, hg⟩ := key
  refine ⟨H', ?_, hg⟩
  refine .of_ret (ret_sh mono rfl rfl rfl rfl rfl ?_)
  simp [cl g]
end Go.Mx.Tryz
