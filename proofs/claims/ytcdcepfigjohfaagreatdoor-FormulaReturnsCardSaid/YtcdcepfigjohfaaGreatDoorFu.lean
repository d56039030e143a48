/- The text of a formula: both texts. -/
import Derived.Test.YtcdcepfigjohfaaGreatDoorFt
set_option linter.unusedSimpArgs false
set_option linter.unusedVariables false
set_option linter.unusedSectionVars false
set_option maxRecDepth 100000
namespace Go.Mx.Tryz
open Go.Lib

theorem b2s_dig (M : Mem) (k : Nat) (hk : k < 10) : readX M .b2s [.ls [[.i .u8 (48 + (k : Int))]]] = some (.m (.s [48 + k])) := by
  have e : (48 + (k : Int)) = ((48 + k : Nat) : Int) := by omega
  rw [e]
  show Option.bind (gd (Nat.blt (48 + k) 256) (some [48 + k])) (fun l => some (V.m (.s l))) = _
  rw [blt_dec, decide_eq_true (by omega)]
  rfl

theorem dec_pos (u : Nat) (hu : u ≤ 4611686018427387904) (H : Hp) : Gives G 53 [.m (.i .i64 u)] H (.m (.s (decN u))) H := by
  refine gives_pur rfl rfl rfl rfl rfl ?_
  have hd := decN_len u (by omega)
  have t1 : ∀ m : Nat, (m : Int).tmod 10 = ((m % 10 : Nat) : Int) := fun _ => rfl
  have t2 : ∀ m : Nat, (m : Int).tdiv 10 = ((m / 10 : Nat) : Int) := fun _ => rfl
  have hu0 : ¬ (u : Int) < 0 := by omega
  have w : ∀ k : Nat, k < 10 → wr .i64 (48 + (k : Int)) = 48 + (k : Int) := fun k hk => wr_i64 (by omega) (by omega)
  have w8 : ∀ k : Nat, k < 10 → wr .u8 (48 + (k : Int)) = 48 + (k : Int) := fun k hk => wr_u8 (by omega) (by omega)
  have hm := Nat.mod_lt u (by omega : 10 > 0)
  simp [hu0, t1, w _ hm, w8 _ hm, b2s_dig _ _ hm, -Int.natCast_emod, -Int.natCast_ediv]
  refine (?key : ∀ (m : Nat) (t : List Nat) (B : List (Nat × List V)), m ≤ 4611686018427387904 → ((m < 10 → decN u = t) ∧ (¬ m < 10 → decN u = decN (m / 10) ++ t)) → Run G c53_B0 (S53_0 (.m (.i .i64 m)) (.m (.s t)) B []) _) u [48 + u % 10] [] hu ⟨fun h => by rw [decN_one h, Nat.mod_eq_of_lt h], fun h => decN_big h⟩
  refine indM (fun m : Nat => m) fun m ih t B hb hi => ?_
  unfold c53_B0
  by_cases h10 : m < 10
  · have h10' : ¬ (10 : Int) ≤ m := by omega
    have := hi.1 h10
    subst this
    simp [h10']
  · have h10' : (10 : Int) ≤ m := by omega
    have hi := hi.2 h10
    have hml := Nat.mod_lt (m / 10) (by omega : 10 > 0)
    have wd : wr .i64 ((m / 10 : Nat) : Int) = ((m / 10 : Nat) : Int) := wr_i64 (by omega) (by omega)
    have htl : t.length ≤ 20 := by rw [hi, List.length_append] at hd; omega
    have ih := ih (m / 10) (by omega) ([48 + m / 10 % 10] ++ t)
    generalize hq : m / 10 = q at *
    have ih := fun B => ih B (by omega) ⟨fun h => by rw [hi, decN_one h, Nat.mod_eq_of_lt h], fun h => by rw [hi, decN_big h, List.append_assoc]⟩
    have ht1 : 1 + t.length ≤ 9223372036854775807 := by omega
    simp [h10', t1, t2, hq, wd, w _ hml, w8 _ hml, b2s_dig _ _ hml, ht1, -Int.natCast_emod, -Int.natCast_ediv]
    exact ih B
theorem decimal_r (n : Int) (h0 : -4611686018427387904 ≤ n) (h1 : n ≤ 4611686018427387904) (H : Hp) : Gives G 53 [.m (.i .i64 n)] H (.m (.s (itoaN n))) H := by
  by_cases hn : n < 0
  · obtain ⟨u, rfl⟩ : ∃ u : Nat, n = -(u : Int) := ⟨n.natAbs, by omega⟩
    have g := dec_pos u (by omega) []
    have hd := decN_len u (by omega)
    have e := itoaN_neg u (by omega)
    have w : wr .i64 (u : Int) = u := wr_i64n u (by omega)
    have hl : 1 + (decN u).length ≤ 9223372036854775807 := by omega
    refine gives_pur rfl rfl rfl rfl rfl ?_
    have hu : 0 < u := by omega
    simp [hu, w, cl g, hl, e]
  · obtain ⟨u, rfl⟩ : ∃ u : Nat, n = (u : Int) := ⟨n.natAbs, by omega⟩
    rw [itoaN_pos]
    exact dec_pos u (by omega) H

/-- A clause's text; the text of the clauses, if it is not too long. -/
def litT (x : Int) : List Nat := itoaN x ++ [32]
def clT (c : List Int) : List Nat := (c.map litT).flatten
def txtG : List Nat → List I → Option (List Nat)
  | out, [] => some out
  | out, z :: r => if 65536 < (out ++ clT (dI z) ++ [48, 10]).length then none else txtG (out ++ clT (dI z) ++ [48, 10]) r
def headT (n : Int) (k : Nat) : List Nat := 112 :: 32 :: 99 :: 110 :: 102 :: 32 :: (itoaN n ++ 32 :: (itoaN k ++ [10]))
def textV (n : Int) (zs : List I) : V := if frm n zs = true then (match txtG (headT n zs.length) zs with | some o => .tu [.m (.s o), .m (.i .i64 0)] | none => .tu [.m (.s []), .m (.i .i64 6)]) else .tu [.m (.s []), .m (.i .i64 2)]
theorem lit_len (x : Int) (n : Int) (h : lit n x = true) (hn : n ≤ 65536) : (litT x).length ≤ 22 := by
  unfold lit at h
  simp only [decide_eq_true_eq] at h
  have := itoaN_len x (by omega) (by omega)
  simp only [litT, List.length_append, List.length_singleton]
  omega
theorem clT_len (n : Int) (hn : n ≤ 65536) : ∀ (c : List Int), lits n c = true → (clT c).length ≤ 22 * c.length
  | [], _ => by simp [clT]
  | x :: r, h => by
    unfold lits at h
    rw [List.all_cons, Bool.and_eq_true] at h
    have h1 := lit_len x n h.1 hn
    have h2 := clT_len n hn r h.2
    simp only [clT, List.map_cons, List.flatten_cons, List.length_append, List.length_cons] at h1 h2 ⊢
    omega
theorem lit_byte (x : Int) : ∀ c, c ∈ litT x → c < 256 := fun c hc => by
  unfold litT at hc
  rcases List.mem_append.1 hc with h | h
  · exact itoaN_byte x c h
  · simp at h; omega
end Go.Mx.Tryz
