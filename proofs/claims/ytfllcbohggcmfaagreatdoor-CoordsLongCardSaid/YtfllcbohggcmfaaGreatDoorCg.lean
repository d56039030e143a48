/- CoordsLong: texts that are too long, texts with too many cells. -/
import Derived.Test.YtfllcbohggcmfaaGreatDoorSeav
import Derived.Test.YtfllcbohggcmfaaGreatDoorItoa
import Derived.Test.YtfllcbohggcmfaaGreatDoorCm
import Derived.Test.YtfllcbohggcmfaaGreatDoorKs
import Derived.Test.YtfllcbohggcmfaaGreatDoorArg
import Derived.Test.YtfllcbohggcmfaaGreatDoorAwake
set_option linter.unusedSimpArgs false
set_option linter.unusedVariables false
set_option linter.unusedSectionVars false
set_option maxRecDepth 100000
namespace Go.Mx.Tryz
open Go.Lib

def bytRQ (s : List Nat) : List (List V) := s.map fun c : Nat => [.m (.i .u8 (c : Int))]
@[simp] theorem bytR_lenQ (s : List Nat) : (bytRQ s).length = s.length := by simp [bytRQ]
theorem bytR_appQ (s t : List Nat) : bytRQ s ++ bytRQ t = bytRQ (s ++ t) := by simp [bytRQ]
theorem bytR_ofQ (l : List Nat) : (l.map fun c : Nat => [V.m (.i .u8 (Int.ofNat c))]) = bytRQ l := rfl
theorem bytes_bytRQ : ∀ (s : List Nat), (∀ c, c ∈ s → c < 256) → bytes? (bytRQ s) = some s
 | [], _ => rfl
 | c :: r, h => by
  show gd (Nat.blt c 256) ((bytes? (bytRQ r)).bind fun l => some (c :: l)) = _
  rw [blt_dec, decide_eq_true (h c (by simp)), bytes_bytRQ r fun x hx => h x (by simp [hx])]
  rfl
theorem bytR_okQ (s : List Nat) : (bytRQ s).all (fun e => Nat.beq e.length 1 && e.all oneV) = true := by
 rw [List.all_eq_true]
 intro e he
 obtain ⟨c, _, rfl⟩ := List.mem_map.1 he
 rfl
def oVQ (s : List Nat) : V := .sl 0 s.length 1 0 s.length false
def oRQ (s : List Nat) (b : Nat) : Row := .cs 5 1 (bytRQ s) b false
@[simp] theorem setC_oVQ (E L : Env) (M : Mem) (n : Nat) (s : List Nat) : setC ⟨E, L, M⟩ (.v n) (oVQ s) = some ⟨setE E n (oVQ s), L, M⟩ := rfl
@[simp] theorem noFa_oVQ (s : List Nat) : noFaV (oVQ s) = true := rfl
@[simp] theorem len_oVQ (s : List Nat) : pureX (.len false) [oVQ s] = some (.m (.i .i64 s.length)) := rfl
theorem app0Q {H : Hp} {s t : List Nat} {b : Nat} (h : nth H 0 = some (oRQ s b)) (hl : s.length + t.length ≤ 140737488355328) (B : List (Nat × List V)) :
  appX ⟨B, H⟩ 5 1 1 (oVQ s) (bytRQ t) = some (oVQ (s ++ t), ⟨B, H.set 0 (oRQ (s ++ t) b)⟩) := by
 cases H with
 | nil => simp [nth] at h
 | cons r0 X =>
  have : r0 = oRQ s b := by simpa [nth] using h
  subst this
  cases t with
  | nil => rw [List.append_nil]; rfl
  | cons c t' =>
   have e : appX ⟨B, oRQ s b :: X⟩ 5 1 1 (oVQ s) (bytRQ (c :: t')) =
     gd (!false && Nat.beq 5 5 && Nat.beq 1 1 && Nat.beq 1 1 && Nat.beq 0 0 && Nat.beq s.length (bytRQ s).length && Nat.beq s.length (bytRQ s).length && Nat.ble (((bytRQ s).length + (bytRQ (c :: t')).length) * 1) 140737488355328 && (bytRQ (c :: t')).all fun e => Nat.beq e.length 1 && e.all oneV)
      ((setEl (oRQ s b :: X) 0 (.cs 5 1 (bytRQ s ++ bytRQ (c :: t')) b false)).bind fun H' => some (.sl 0 ((bytRQ s).length + (bytRQ (c :: t')).length) 1 0 ((bytRQ s).length + (bytRQ (c :: t')).length) false, ⟨B, H'⟩)) := rfl
   rw [e]
   have h1 : Nat.ble ((s.length + (c :: t').length) * 1) 140737488355328 = true := by rw [ble_dec]; simp only [decide_eq_true_eq]; omega
   simp only [bytR_okQ, bytR_lenQ, bytR_appQ, h1]
   simp [oVQ, oRQ, setEl, List.length_append]

theorem b2s_oVQ {H : Hp} {s : List Nat} {b : Nat} (h : nth H 0 = some (oRQ s b)) (hb : b ≤ s.length) (hc : ∀ c, c ∈ s → c < 256) (B : List (Nat × List V)) : readX ⟨B, H⟩ .b2s [oVQ s] = some (.m (.s s)) := by
 show Option.bind (elems H (.sl 0 s.length 1 0 s.length false)) _ = _
 rw [elems_row, h]
 show Option.bind (gd (Nat.ble b s.length && Nat.beq 1 1) (some (((bytRQ s).drop 0).take s.length))) _ = _
 have e : (bytRQ s).take s.length = bytRQ s := List.take_of_length_le (by simp)
 rw [ble_dec, decide_eq_true hb, List.drop_zero, e]
 show Option.bind (bytes? (bytRQ s)) _ = _
 rw [bytes_bytRQ s hc]
 rfl

end Go.Mx.Tryz
namespace Go.Mx.Tryz
open Go.Lib

def cellsK (n : Nat) : List Ce := (List.range n).map fun j : Nat => (⟨(j : Int), 7, 1⟩ : Ce)
theorem cellsK_len (n : Nat) : (cellsK n).length = n := by simp [cellsK]
theorem cellsK_succ (n : Nat) : cellsK (n + 1) = cellsK n ++ [⟨(n : Int), 7, 1⟩] := by simp [cellsK, List.range_succ]
theorem cellsK_small {n : Nat} (h : n ≤ 6000) : ∀ c, c ∈ cellsK n → small c := fun c hc => by
 unfold cellsK at hc
 obtain ⟨j, hj, rfl⟩ := List.mem_map.1 hc
 have := List.mem_range.1 hj
 exact ⟨by simp; omega, by simp, by simp⟩
theorem cellsK_pw (n : Nat) : (cellsK n).Pairwise fun a b => less a b = true := by
 unfold cellsK
 rw [List.pairwise_map]
 refine List.pairwise_lt_range.imp fun {a b} h => ?_
 unfold less
 simp
 omega
theorem itoa7 : itoaN 7 = [55] := by
 have : itoaN ((7 : Nat) : Int) = decN 7 := itoaN_pos 7
 rw [show ((7 : Nat) : Int) = 7 from rfl] at this
 rw [this, decN_one (by omega)]
theorem lineK (j : Nat) : lineT ⟨(j : Int), 7, 1⟩ = decN j ++ [32, 55] := by
 unfold lineT
 simp only
 rw [itoaN_pos, itoa7]
 simp
theorem textK_succ (n : Nat) : textP (cellsK (n + 1)) = textP (cellsK n) ++ (decN n ++ [32, 55, 10]) := by
 rw [cellsK_succ]
 have e : ∀ (p : List Ce) (c : Ce), textP (p ++ [c]) = textP p ++ (lineT c ++ [10]) := fun p c => by
  induction p with
  | nil => simp [textP]
  | cons d r ih =>
   show (lineT d ++ [10]) ++ textP (r ++ [c]) = ((lineT d ++ [10]) ++ textP r) ++ (lineT c ++ [10])
   rw [ih]
   simp
 rw [e, lineK]
 simp
theorem textK_len : ∀ n : Nat, n ≤ 9999 → (textP (cellsK n)).length ≤ 7 * n
 | 0, _ => by simp [cellsK, textP]
 | n + 1, h => by
  have h1 := textK_len n (by omega)
  have h2 := decN_lenk 3 n (by omega)
  rw [textK_succ]
  simp
  omega
theorem textK_256 (n : Nat) : ∀ y, y ∈ headC ++ textP (cellsK n) → y < 256 := fun y hy => by
 rcases List.mem_append.1 hy with h | h
 ·exact (show ∀ y, y ∈ headC → y < 256 by decide) y h
 ·exact textP_256 _ y h
theorem prs_head (n : Nat) : prs cfM 1 (linesA [] (headC ++ textP (cellsK n))) [] = prs cfM 2 ((cellsK n).map lineT) [] := by
 rw [lines_text]
 rfl
theorem prsK_ok {n : Nat} (h : n ≤ 5000) : prs cfM 1 (linesA [] (headC ++ textP (cellsK n))) [] = .inl (cellsK n) := by
 rw [prs_head]
 have := prs_cat [] (cellsK n) [] 2 (by omega) (by omega) (cellsK_small (by omega)) (pw_apart (cellsK_pw n)) (by rw [cellsK_len]; simpa using h)
 rw [List.append_nil] at this
 rw [this]
 rfl
theorem cellsK_split : ∀ (k : Nat), ∃ r, cellsK (5000 + 1 + k) = cellsK 5000 ++ ⟨5000, 7, 1⟩ :: r
 | 0 => ⟨[], by rw [cellsK_succ]; rfl⟩
 | k + 1 => by
  obtain ⟨r, h⟩ := cellsK_split k
  refine ⟨r ++ [⟨((5000 + 1 + k : Nat) : Int), 7, 1⟩], ?_⟩
  rw [show 5000 + 1 + (k + 1) = (5000 + 1 + k) + 1 by omega, cellsK_succ, h]
  simp
theorem prsK_er {n : Nat} (h : 5000 < n) (h6 : n ≤ 6000) : prs cfM 1 (linesA [] (headC ++ textP (cellsK n))) [] = .inr (5002, 6) := by
 rw [prs_head]
 obtain ⟨k, rfl⟩ : ∃ k, n = 5000 + 1 + k := ⟨n - 5001, by omega⟩
 obtain ⟨r, hr⟩ := cellsK_split k
 have hw := cellsK_pw (5000 + 1 + k)
 rw [hr] at hw ⊢
 rw [List.map_append, List.map_cons]
 have hs : small ⟨5000, 7, 1⟩ := ⟨by simp, by simp, by simp⟩
 rw [prs_cat _ (cellsK 5000) [] 2 (by omega) (by omega) (cellsK_small (by omega)) (pw_apart (cellsK_pw 5000)) (by rw [cellsK_len]; simp), cellsK_len, List.nil_append]
 have hcf := cfM_line hs
 obtain ⟨s1, s2⟩ := lineT_st ⟨5000, 7, 1⟩
 have ha : ((cellsK 5000).any fun d => decide (d.x = (⟨5000, 7, 1⟩ : Ce).x ∧ d.y = (⟨5000, 7, 1⟩ : Ce).y)) = false := by
  rw [List.any_eq_false]
  intro d hd
  have := (List.pairwise_append.1 (pw_apart hw)).2.2 d hd ⟨5000, 7, 1⟩ (by simp)
  unfold apart at this
  simpa using this
 have hst : step cfM (2 + ((5000 : Nat) : Int)) (lineT ⟨5000, 7, 1⟩) (cellsK 5000) = .er 6 := by
  unfold step
  rw [if_neg (by omega), if_neg (by intro h; rcases h with h | h; exact s1 h; exact s2 h), hcf]
  simp only at ha ⊢
  rw [if_neg (by simp), ha, if_neg (by simp), if_pos (by rw [cellsK_len]; omega)]
 have e : prs cfM (2 + ((5000 : Nat) : Int)) (lineT ⟨5000, 7, 1⟩ :: r.map lineT) (cellsK 5000) = match step cfM (2 + ((5000 : Nat) : Int)) (lineT ⟨5000, 7, 1⟩) (cellsK 5000) with | .go f' => prs cfM (2 + ((5000 : Nat) : Int) + 1) (r.map lineT) f' | .er e => .inr (2 + ((5000 : Nat) : Int), e) := rfl
 rw [e, hst]
 rfl
theorem parse_big {s : List Nat} (h : 65536 < s.length) (H : Hp) : Gives G 10 [.m (.s s)] H (.tu [.m (.nl 4), .m (.i .i64 0), .m (.i .i64 6)]) H := by
 refine gives_pur rfl rfl rfl rfl rfl ?_
 have h' : (65536 : Int) < s.length := by omega
 simp (maxSteps := 2000000) (disch := omega) [gd_in, gd_and, wr_i64, h']
def longV (n : Nat) : V := if n ≤ 5000 then .tu [.m (zP (cellsK n)), .m (.i .i64 0), .m (.i .i64 0)] else .tu [.m (.nl 4), .m (.i .i64 5002), .m (.i .i64 6)]
theorem parse_long {n : Nat} (hn : n ≤ 5100) (H : Hp) : Gives G 10 [.m (.s (headC ++ textP (cellsK n)))] H (longV n) H := by
 have tl := textK_len n (by omega)
 have h7 : (headC ++ textP (cellsK n)).length ≤ 65536 := by
  have : headC.length = 7 := rfl
  rw [List.length_append]
  omega
 unfold longV
 rcases parse_m (headC ++ textP (cellsK n)) h7 (by simp [headC]) (textK_256 n) with ⟨m, e, hp, g⟩ | ⟨f, q, hp, k1, k2, k3, _, _, g⟩
 ·by_cases h : n ≤ 5000
  ·rw [prsK_ok h] at hp; cases hp
  ·rw [prsK_er (by omega) (by omega)] at hp
   cases hp
   rw [if_neg h]
   exact g H
 ·by_cases h : n ≤ 5000
  ·rw [prsK_ok h] at hp
   cases hp
   have := asc_eq (cellsK_pw n) k2 k1
   subst this
   rw [if_pos h]
   exact g H
  ·rw [prsK_er (by omega) (by omega)] at hp; cases hp
set_option maxHeartbeats 4000000 in
theorem law_long (hA : Gives G 9 [] [] (.m (.b true)) []) {s : List Nat} (hs : s.length ≤ 9223372036854775807) (k : Nat) (hk : k ≤ 65535) : Gives G 4 [.m (.s s), .m (.i .u16 (k : Int))] [] (.m (.b true)) [] := by
 have hA := fun H => gives_view (H := H) (vs := []) (is := []) rfl rfl hA rfl (.inl ⟨rfl, rfl⟩)
 refine gives_pur rfl rfl rfl rfl rfl ?_
 by_cases h20 : 20 < s.length
 ·have h' : (20 : Int) < s.length := by omega
  simp (maxSteps := 2000000) (disch := omega) [gd_in, gd_and, wr_i64, h', cl (hA _), gcall_cx]
 ·have h' : ¬ (20 : Int) < s.length := by omega
  by_cases h0 : s = []
  ·subst h0
   simp (maxSteps := 2000000) (disch := omega) [gd_in, gd_and, wr_i64, cl (hA _), gcall_cx]
  ·have h0' : ¬ (s.length : Int) = 0 := by have := List.length_pos_iff.2 h0; omega
   simp (maxSteps := 2000000) (disch := omega) [gd_in, gd_and, wr_i64, h', h0, h0', gcall_cx]
   refine (?key : ∀ (t : List Nat) (B : List (Nat × List V)) (H : Hp), 7 ≤ t.length → t.length ≤ 200000 → H = [] → Run G c4_B0 (S4_0 (.m (.s s)) (.m (.i .u16 (k : Int))) (.m (.s t)) B H) _) [35, 99, 101, 108, 108, 115, 10] [] [] (by simp) (by simp) rfl
   refine indM (fun t : List Nat => 200001 - t.length) fun t ih B H ht7 ht2 hH => ?_
   subst hH
   unfold c4_B0
   by_cases hle : t.length ≤ 65536
   ·have hle' : (t.length : Int) ≤ 65536 := by omega
    have a1 : t.length + s.length ≤ 9223372036854775807 := by omega
    have a2 : t.length + s.length + t.length ≤ 9223372036854775807 := by omega
    have a3 : t.length + (s.length + t.length) ≤ 9223372036854775807 := by omega
    have kk := ih (t ++ s ++ t) (by simp; omega) B [] (by simp; omega) (by simp; omega) rfl
    rw [List.append_assoc] at kk
    simp (maxSteps := 2000000) (disch := omega) [gd_in, gd_and, wr_i64, hle, hle', a1, a2, a3]
    exact kk
   ·have hle' : ¬ (t.length : Int) ≤ 65536 := by omega
    have gb := fun H => parse_big (s := t) (by omega) H
    have wk : wr .i64 (k : Int) = (k : Int) := wr_i64 (by omega) (by omega)
    have tk : (k : Int).tmod 5100 = ((k % 5100 : Nat) : Int) := rfl
    have hn : k % 5100 < 5100 := Nat.mod_lt _ (by omega)
    generalize k % 5100 = n at *
    have hrow : ∀ cl (B : List (Nat × List V)), loudX cl ⟨B, []⟩ (.bsw 5 1 [.m (.i .u8 0)] 7 [0, 1, 2, 3, 4, 5, 6]) [.m (.i .u8 35), .m (.i .u8 99), .m (.i .u8 101), .m (.i .u8 108), .m (.i .u8 108), .m (.i .u8 115), .m (.i .u8 10)] = some (oVQ headC, ⟨B, [oRQ headC 0]⟩) := fun cl B => rfl
    have hs2 : ∀ cl (B : List (Nat × List V)), loudX cl ⟨B, [oRQ headC 0]⟩ .s2w [oVQ headC] = some (oVQ headC, ⟨B, [oRQ headC 0]⟩) := fun cl B => rfl
    simp (maxSteps := 2000000) (disch := omega) [gd_in, gd_and, wr_i64, hle', hle, cl (gb _), wk, tk, hrow, hs2]
    refine (?key2 : ∀ (i : Nat) (B : List (Nat × List V)), i ≤ n → Run G c4_B1 (S4_1 (.m (.i .i64 (n : Int))) (oVQ (headC ++ textP (cellsK i))) (.m (.i .i64 (i : Int))) B [oRQ (headC ++ textP (cellsK i)) 0]) _) 0 _ (Nat.zero_le _)
    refine indM (fun i : Nat => n - i) fun i ih2 B hi => ?_
    unfold c4_B1
    by_cases hlt : i < n
    ·have hlt' : (i : Int) < n := by omega
     have gd := fun H => decm (i : Int) (by omega) (by omega) H
     have tl := textK_len i (by omega)
     have dl := decN_lenk 3 i (by omega)
     rw [itoaN_pos] at gd
     have h7 : headC.length = 7 := rfl
     have happ := fun cl B => (show loudX cl ⟨B, [oRQ (headC ++ textP (cellsK i)) 0]⟩ (.app 5 1 1) [oVQ (headC ++ textP (cellsK i)), .m (.s (decN i ++ [32, 55, 10]))] = some (oVQ (headC ++ textP (cellsK (i + 1))), ⟨B, [oRQ (headC ++ textP (cellsK (i + 1))) 0]⟩) from by
      have e := app0Q (H := [oRQ (headC ++ textP (cellsK i)) 0]) (s := headC ++ textP (cellsK i)) (t := decN i ++ [32, 55, 10]) (b := 0) rfl (by simp only [List.length_append, List.length_cons, List.length_nil]; omega) B
      rw [textK_succ]
      rw [List.append_assoc] at e
      exact e)
     have k2 := ih2 (i + 1) (by omega) B (by omega)
     have wi : wr .i64 ((i : Int) + 1) = ((i + 1 : Nat) : Int) := wr_i64 (by omega) (by omega)
     have al : (decN i).length + 3 ≤ 9223372036854775807 := by omega
     simp (maxSteps := 2000000) (disch := omega) [gd_in, gd_and, wr_i64, hlt', hlt, cl (gd _), happ, wi, al]
     exact k2
    ·have : i = n := by omega
     subst this
     have hlt' : ¬ (i : Int) < i := by omega
     have gp := fun H => parse_long (n := i) (by omega) H
     have hb2 := fun B => b2s_oVQ (H := [oRQ (headC ++ textP (cellsK i)) 0]) (s := headC ++ textP (cellsK i)) (b := 0) rfl (Nat.zero_le _) (textK_256 i) B
     unfold longV at gp
     by_cases h5 : i ≤ 5000
     ·have h5' : ¬ (5000 : Int) < i := by omega
      rw [if_pos h5] at gp
      have zl := (zP_sl (cellsK i)).rules
      have cl3 : (cells3 (cellsK i)).length = i := by simp [cellsK_len]
      simp (maxSteps := 2000000) (disch := omega) [gd_in, gd_and, wr_i64, hlt', hb2, cl (gp _), h5', h5, zl, cl3, cl (hA _), gcall_cx, cellsK_len]
     ·have h5' : (5000 : Int) < i := by omega
      rw [if_neg h5] at gp
      simp (maxSteps := 2000000) (disch := omega) [gd_in, gd_and, wr_i64, hlt', hb2, cl (gp _), h5', h5, cl (hA _), gcall_cx]
theorem aggU16 : aggT Go.Proofs.Tryz.prog 30 = some false := by unfold aggT; rw [Go.Proofs.Tryz.underlying30]; rfl
theorem arg_u16 {B n : Nat} {ts : List TypeId} {us : List V} (h : ArgsOk Go.Proofs.Tryz.prog B (n + 1) (30 :: ts) us) : ∃ (k : Nat) (r : List V), k ≤ 65535 ∧ us = .m (.i .u16 (k : Int)) :: r ∧ ArgsOk Go.Proofs.Tryz.prog B (n + 1) ts r := by
 obtain ⟨l, r, rfl, hl, h'⟩ := argsOk_cons h
 unfold Fits at hl
 rw [Go.Proofs.Tryz.underlying30] at hl
 simp only at hl
 obtain ⟨x, rfl, hx⟩ := hl
 have e1 : IntKind.u16.min = 0 := by decide
 have e2 : IntKind.u16.max = 65535 := by decide
 rw [e1, e2] at hx
 obtain ⟨k, rfl⟩ := Int.eq_ofNat_of_zero_le hx.1
 rw [argV_one aggU16]
 exact ⟨k, r, by omega, rfl, h'⟩
theorem coords_long (us : List V) (h : ArgsOk Go.Proofs.Tryz.prog maxLen 8 Go.Proofs.Tryz.f4.params.toList us) : Gives G 4 us [] (.m (.b true)) [] := by
 have e : Go.Proofs.Tryz.f4.params.toList = [9, 30] := by rw [Go.Proofs.Tryz.params4]
 have h := e ▸ h
 obtain ⟨s, _, rfl, hl, hb, h1⟩ := arg_strC h
 obtain ⟨k, _, hk, rfl, h2⟩ := arg_u16 h1
 have := argsOk_nil h2
 subst this
 exact law_long gives_awake hl k hk
end Go.Mx.Tryz
