/- Patterns: both texts of Right say the same. -/
import Derived.Test.YtfllcbohggcmfaaGreatDoorSeav
set_option linter.unusedSimpArgs false
set_option linter.unusedVariables false
set_option linter.unusedSectionVars false
set_option maxRecDepth 100000
namespace Go.Mx.Tryz

structure Ce where
 x : Int
 y : Int
 s : Int
def Ce.i (c : Ce) : List I := [.i .i64 c.x, .i .i64 c.y, .i .i64 c.s]
def cells3 (p : List Ce) : List (List I) := p.map Ce.i
@[simp] theorem cells3_len (p : List Ce) : (cells3 p).length = p.length := by simp [cells3]
theorem cells3_nth {p : List Ce} {i : Nat} {c : Ce} (h : p[i]? = some c) : nth (cells3 p) i = some [.i .i64 c.x, .i .i64 c.y, .i .i64 c.s] := by
 rw [nth_get]
 simp [cells3, h, Ce.i]

def placed (x y : Int) : Bool := decide (-1048576 ≤ x ∧ x ≤ 1048576 ∧ -1048576 ≤ y ∧ y ≤ 1048576)
def less (a b : Ce) : Bool := decide (a.y < b.y ∨ (a.y = b.y ∧ a.x < b.x))
def good (c : Ce) : Bool := placed c.x c.y && decide (1 ≤ c.s) && decide (c.s < 8)
def chain : Option Ce → List Ce → Bool
 | _, [] => true
 | none, c :: r => good c && chain (some c) r
 | some a, c :: r => good c && less a c && chain (some c) r
def right (p : List Ce) : Bool := decide (p.length ≤ 5000) && chain none p

theorem placed_s (x y : Int) (H : Hp) : Gives G 42 [.m (.ag [.i .i64 x, .i .i64 y])] H (.m (.b (placed x y))) H := by
 refine gives_pur rfl rfl rfl rfl rfl ?_
 simp (contextual := true) [test_cx, rest_cx, gcall_cx, gcav_cx, -Int.not_lt, -Int.not_le, -Nat.not_lt, -Nat.not_le, -List.map_take, placed]
 grind
theorem at_s (c : Ce) (H : Hp) : Gives G 43 [.m (.ag [.i .i64 c.x, .i .i64 c.y, .i .i64 c.s])] H (.m (.ag [.i .i64 c.x, .i .i64 c.y])) H := by
 refine gives_pur rfl rfl rfl rfl rfl ?_
 simp
theorem nan_s (x : Int) (H : Hp) : Gives G 113 [.m (.i .i64 x)] H (.m (.b false)) H := by
 refine gives_pur rfl rfl rfl rfl rfl ?_
 simp
def cmpI (x y : Int) : Int := if x < y then -1 else if y < x then 1 else 0
theorem cmp_s (x y : Int) (H : Hp) : Gives G 88 [.m (.i .i64 x), .m (.i .i64 y)] H (.m (.i .i64 (cmpI x y))) H := by
 refine gives_pur rfl rfl rfl rfl rfl ?_
 simp (contextual := true) [test_cx, rest_cx, gcall_cx, gcav_cx, -Int.not_lt, -Int.not_le, -Nat.not_lt, -Nat.not_le, -List.map_take, cl (nan_s _ _), cmpI]
theorem or2_s (a b : Int) (H : Hp) : Gives G 87 [.m (.sl [[.i .i64 a], [.i .i64 b]])] H (.m (.i .i64 (if a = 0 then b else a))) H := by
 refine gives_pur rfl rfl rfl rfl rfl ?_
 simp (contextual := true) [test_cx, rest_cx, gcall_cx, gcav_cx, -Int.not_lt, -Int.not_le, -Nat.not_lt, -Nat.not_le, -List.map_take, wr_i64, c87_B0]
def cmpP (x y z w : Int) : Int := if cmpI y w = 0 then cmpI x z else cmpI y w
theorem pcmp_s (x y z w : Int) (H : Hp) : Gives G 60 [.m (.ag [.i .i64 x, .i .i64 y]), .m (.ag [.i .i64 z, .i .i64 w])] H (.m (.i .i64 (cmpP x y z w))) H := by
 refine gives_pur rfl rfl rfl rfl rfl ?_
 have hv := gives_view (vs := [.ls [[.i .i64 (cmpI y w)], [.i .i64 (cmpI x z)]]]) (H := []) rfl rfl (or2_s (cmpI y w) (cmpI x z) []) rfl (.inl ⟨rfl, rfl⟩)
 simp [cl (cmp_s _ _ _), cl hv, cmpP]
theorem order_s (a b : Ce) (H : Hp) : Gives G 45 [.m (.ag [.i .i64 a.x, .i .i64 a.y, .i .i64 a.s]), .m (.ag [.i .i64 b.x, .i .i64 b.y, .i .i64 b.s])] H (.m (.i .i64 (cmpP a.x a.y b.x b.y))) H := by
 refine gives_pur rfl rfl rfl rfl rfl ?_
 simp [cl (at_s _ _), cl (pcmp_s _ _ _ _ _)]
theorem cmpP_less (a b : Ce) : (0 ≤ cmpP a.x a.y b.x b.y) ↔ less a b = false := by
 unfold less cmpP cmpI
 grind
def prev (p : List Ce) : Nat → Option Ce
 | 0 => none
 | i + 1 => p[i]?
theorem chain_cons {p : List Ce} {i : Nat} {c : Ce} (hx : p[i]? = some c) (hi : ∀ j, i = j + 1 → j < p.length) : chain (prev p i) (c :: p.drop (i + 1)) = (good c && (match prev p i with | none => true | some a => less a c) && chain (prev p (i + 1)) (p.drop (i + 1))) := by
 have : prev p (i + 1) = some c := hx
 rw [this]
 cases prev p i with
 | none => show (good c && chain (some c) _) = _; simp
 | some a => show (good c && less a c && chain (some c) _) = _; simp

theorem right_s {v : I} {p : List Ce} (hv : IsSl v (cells3 p)) (hl : (p.length : Int) ≤ 9223372036854775807) (H : Hp) : Gives G 27 [.m v] H (.m (.b (right p))) H := by
 refine gives_pur rfl rfl rfl rfl rfl ?_
 simp (contextual := true) [test_cx, rest_cx, gcall_cx, gcav_cx, -Int.not_lt, -Int.not_le, -Nat.not_lt, -Nat.not_le, -List.map_take, hv.rules]
 refine ⟨fun h => ?_, fun h => ?_⟩
 ·unfold right
  grind
 refine (?key : ∀ (i : Nat) (B : List (Nat × List V)), i ≤ p.length → right p = chain (prev p i) (p.drop i) → Run G c27_B0 (S27_0 (.m v) (.m v) (.m (.i .i64 p.length)) (.m (.i .i64 i)) B []) _) 0 [] (Nat.zero_le _) ?_
 case key =>
  refine indM (fun i : Nat => p.length - i) fun i ih B hi hr => ?_
  unfold c27_B0
  cases hx : p[i]? with
  | none =>
   have : i = p.length := by have := List.getElem?_eq_none_iff.1 hx; omega
   subst this
   have : chain (prev p p.length) [] = true := by cases prev p p.length <;> rfl
   simp [hr, this]
  | some c =>
   have hlt := (get_drop hx).1
   have hn := cells3_nth hx
   rw [(get_drop hx).2, chain_cons hx (by omega)] at hr
   have hg : good c = (placed c.x c.y && decide (1 ≤ c.s) && decide (c.s < 8)) := rfl
   cases i with
   | zero =>
    simp (contextual := true) (maxSteps := 2000000) (disch := omega) [test_cx, rest_cx, gcall_cx, gcav_cx, -Int.not_lt, -Int.not_le, -Nat.not_lt, -Nat.not_le, -List.map_take, hv.rules, hn, hlt, cl (at_s _ _), cl (placed_s _ _ _), wr_i64]
    repeat' first | with_reducible apply And.intro | intro _
    all_goals first
     | (refine ih 1 (by omega) _ (by omega) ?_; grind [prev])
     | grind [prev]
   | succ j =>
    obtain ⟨c0, hx0⟩ : ∃ c0, p[j]? = some c0 := ⟨p[j], List.getElem?_eq_getElem (by omega)⟩
    have hn0 := cells3_nth hx0
    have e3 : (j : Int) + 1 < p.length := by omega
    have e4 : (j : Int) < p.length := by omega
    have e6 : (0 : Int) ≤ j + 1 := by omega
    have e7 : ((j : Int) + 1).toNat = j + 1 := by omega
    have hp0 : prev p (j + 1) = some c0 := hx0
    simp only [hp0] at hr
    simp (contextual := true) (maxSteps := 2000000) (disch := omega) [test_cx, rest_cx, gcall_cx, gcav_cx, -Int.not_lt, -Int.not_le, -Nat.not_lt, -Nat.not_le, -List.map_take, hv.rules, hn, hn0, e3, e4, e6, e7, hlt, cl (at_s _ _), cl (placed_s _ _ _), cl (order_s _ _ _), wr_i64, cmpP_less]
    repeat' first | with_reducible apply And.intro | intro _
    all_goals first
     | (refine ih (j + 2) (by omega) _ (by omega) ?_; grind)
     | grind
 ·have : p.length ≤ 5000 := by omega
  simp [right, this, prev]
end Go.Mx.Tryz
