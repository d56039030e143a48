/- What reading a formula's text gives, plain; the values and rows of the machine for it. -/
import Derived.Test.YtcdcepfigjohfaaGreatDoorGa
set_option linter.unusedSimpArgs false
set_option linter.unusedVariables false
set_option linter.unusedSectionVars false
set_option maxRecDepth 100000
namespace Go.Mx.Tryz

/-- The part ahead of the first 0, and the part behind it. -/
def brk : List Int → Option (List Int × List Int)
  | [] => none
  | x :: r => if x = 0 then some ([], r) else match brk r with
    | none => none
    | some p => some (x :: p.1, p.2)
theorem brk_app : ∀ (c r : List Int), (∀ x, x ∈ c → x ≠ 0) → brk (c ++ 0 :: r) = some (c, r)
  | [], r, _ => rfl
  | x :: c, r, h => by
    have := brk_app c r fun y hy => h y (by simp [hy])
    show (if x = 0 then _ else _) = _
    rw [if_neg (h x (by simp))]
    show (match brk (c ++ 0 :: r) with | none => none | some p => some (x :: p.1, p.2)) = _
    rw [this]
theorem brk_no : ∀ c : List Int, (∀ x, x ∈ c → x ≠ 0) → brk c = none
  | [], _ => rfl
  | x :: c, h => by
    have := brk_no c fun y hy => h y (by simp [hy])
    show (if x = 0 then _ else _) = _
    rw [if_neg (h x (by simp)), this]
theorem brk_some : ∀ (l c r : List Int), brk l = some (c, r) → l = c ++ 0 :: r ∧ ∀ x, x ∈ c → x ≠ 0
  | [], _, _, h => by cases h
  | x :: t, c, r, h => by
    have e : brk (x :: t) = if x = 0 then some ([], t) else match brk t with | none => none | some p => some (x :: p.1, p.2) := rfl
    rw [e] at h
    split at h
    · rename_i hx; cases h; exact ⟨by rw [hx]; rfl, by simp⟩
    · rename_i hx
      cases hb : brk t with
      | none => rw [hb] at h; cases h
      | some p =>
        rw [hb] at h
        cases h
        obtain ⟨h1, h2⟩ := brk_some t p.1 p.2 hb
        exact ⟨by rw [List.cons_append, ← h1], fun y hy => by rcases List.mem_cons.1 hy with h | h; · rw [h]; exact hx
                                                              · exact h2 y h⟩
def ixz : List Int → Nat → Int
  | [], _ => -1
  | x :: r, k => if x = 0 then (k : Int) else ixz r (k + 1)
theorem ixz_brk : ∀ (l : List Int) (k : Nat), ixz l k = match brk l with | none => -1 | some p => ((k + p.1.length : Nat) : Int)
  | [], _ => rfl
  | x :: r, k => by
    have e : brk (x :: r) = if x = 0 then some ([], r) else match brk r with | none => none | some p => some (x :: p.1, p.2) := rfl
    have e2 : ixz (x :: r) k = if x = 0 then (k : Int) else ixz r (k + 1) := rfl
    rw [e, e2]
    by_cases hx : x = 0
    · rw [if_pos hx, if_pos hx]; rfl
    · rw [if_neg hx, if_neg hx, ixz_brk r (k + 1)]
      cases brk r with
      | none => rfl
      | some p => simp only [List.length_cons]; omega
/-- Clauses cut, as the program does; an error's number. -/
def cutI : Nat → List Int → List (List Int) → Int × List (List Int)
  | 0, l, out => if l = [] then (0, out) else (3, [])
  | n + 1, l, out => match brk l with
    | none => (4, [])
    | some p => cutI n p.2 (out ++ [p.1])
/-- As the reference does. -/
def rcut (n : Nat) : List (List Int) → List Int → List Int → Int × List (List Int)
  | out, _, [] => if out.length < n then (4, []) else (0, out)
  | out, cl, x :: r => if out.length = n then (3, []) else if x = 0 then rcut n (out ++ [cl]) [] r else rcut n out (cl ++ [x]) r
theorem rcut_cut (n : Nat) : ∀ (l : List Int) (k : Nat) (out : List (List Int)) (cl : List Int), out.length + k = n → (∀ x, x ∈ cl → x ≠ 0) → (k = 0 → cl = []) → rcut n out cl l = cutI k (cl ++ l) out
  | [], 0, out, cl, h1, h2, h3 => by
    rw [h3 rfl]
    show (if out.length < n then _ else _) = if [] ++ [] = [] then _ else _
    rw [if_neg (by omega), if_pos (show ([] : List Int) ++ [] = [] from rfl)]
  | [], k + 1, out, cl, h1, h2, h3 => by
    show (if out.length < n then _ else _) = (match brk (cl ++ []) with | none => (4, []) | some p => cutI k p.2 (out ++ [p.1]))
    rw [if_pos (by omega), List.append_nil, brk_no cl h2]
  | x :: r, 0, out, cl, h1, h2, h3 => by
    rw [h3 rfl]
    show (if out.length = n then _ else _) = if [] ++ x :: r = [] then _ else _
    rw [if_pos (by omega), if_neg (by simp)]
  | x :: r, k + 1, out, cl, h1, h2, h3 => by
    show (if out.length = n then _ else if x = 0 then _ else _) = (match brk (cl ++ x :: r) with | none => (4, []) | some p => cutI k p.2 (out ++ [p.1]))
    rw [if_neg (by omega)]
    by_cases hx : x = 0
    · subst hx
      rw [if_pos rfl, brk_app cl r h2]
      exact rcut_cut n r k (out ++ [cl]) [] (by simp; omega) (by simp) (fun _ => rfl)
    · rw [if_neg hx, rcut_cut n r (k + 1) out (cl ++ [x]) h1 (fun y hy => by
        rcases List.mem_append.1 hy with h | h
        · exact h2 y h
        · simp at h; rw [h]; exact hx) (by omega), List.append_assoc]
      rfl

/-- All numbers; with the first k of them not negative. -/
def numsI : List (List Nat) → Option (List Int)
  | [] => some []
  | w :: r => if (numR w).2 = true then (numsI r).map fun l => (numR w).1 :: l else none
def numsR : Nat → List (List Nat) → Option (List Int)
  | _, [] => some []
  | k, w :: r => if (numR w).2 = true ∧ ¬ (0 < k ∧ (numR w).1 < 0) then (numsR (k - 1) r).map fun l => (numR w).1 :: l else none
theorem numsR_0 : ∀ l, numsR 0 l = numsI l
  | [] => rfl
  | w :: r => by
    show (if (numR w).2 = true ∧ ¬ (0 < 0 ∧ (numR w).1 < 0) then (numsR 0 r).map _ else none) = if (numR w).2 = true then (numsI r).map _ else none
    rw [numsR_0 r]
    by_cases h : (numR w).2 = true
    · rw [if_pos h, if_pos ⟨h, by omega⟩]
    · rw [if_neg h, if_neg fun hh => h hh.1]
theorem numsI_len : ∀ (l : List (List Nat)) (x : List Int), numsI l = some x → x.length = l.length
  | [], x, h => by cases h; rfl
  | w :: r, x, h => by
    have e : numsI (w :: r) = if (numR w).2 = true then (numsI r).map fun l => (numR w).1 :: l else none := rfl
    rw [e] at h
    split at h
    · cases hr : numsI r with
      | none => rw [hr] at h; cases h
      | some y =>
        rw [hr] at h
        cases h
        simp [numsI_len r y hr]
    · cases h
theorem numsI_le : ∀ (l : List (List Nat)) (x : List Int), numsI l = some x → ∀ y, y ∈ x → -1000000000 < y ∧ y < 1000000000
  | [], x, h, y, hy => by cases h; cases hy
  | w :: r, x, h, y, hy => by
    have e : numsI (w :: r) = if (numR w).2 = true then (numsI r).map fun l => (numR w).1 :: l else none := rfl
    rw [e] at h
    split at h
    · cases hr : numsI r with
      | none => rw [hr] at h; cases h
      | some z =>
        rw [hr] at h
        cases h
        rcases List.mem_cons.1 hy with h | h
        · rw [h]; exact numR_le w
        · exact numsI_le r z hr y h
    · cases h

def zcl (cls : List (List Int)) : List I := cls.map fun c => .sl (celI c)
def clsR (cls : List (List Int)) : List (List V) := cls.map fun c => [.m (.sl (celI c))]
@[simp] theorem zcl_len (cls : List (List Int)) : (zcl cls).length = cls.length := by simp [zcl]
@[simp] theorem clsR_len (cls : List (List Int)) : (clsR cls).length = cls.length := by simp [clsR]
def zC (cls : List (List Int)) : I := if cls = [] then .nl 4 else .sl (ones (zcl cls))
theorem zC_sl (cls : List (List Int)) : IsSl (zC cls) (ones (zcl cls)) := by
  unfold zC
  split
  · rename_i h; subst h; exact isSl_nil
  · exact isSl_sl _
theorem dI_celI (c : List Int) : dI (.sl (celI c)) = c := by
  show (celI c).map dE = c
  unfold celI
  rw [List.map_map]
  have : (dE ∘ fun x : Int => [I.i .i64 x]) = id := rfl
  rw [this, List.map_id]
theorem dI_zcl (cls : List (List Int)) : (zcl cls).map dI = cls := by
  unfold zcl
  rw [List.map_map]
  have : (dI ∘ fun c : List Int => I.sl (celI c)) = id := funext dI_celI
  rw [this, List.map_id]
theorem cls_zcl {cls : List (List Int)} (h : ∀ c, c ∈ cls → c.length ≤ 9223372036854775807) : Cls (zcl cls) := fun z hz => by
  unfold zcl at hz
  obtain ⟨c, hc, rfl⟩ := List.mem_map.1 hz
  rw [dI_celI]
  exact ⟨isSl_sl _, h c hc⟩
def frmV (n : Int) (cls : List (List Int)) : V := .tu [.m (.ag [.i .i64 n, zC cls]), .m (.i .i64 0)]
def errV (e : Int) : V := .tu [.m (.ag [.i .i64 0, .nl 4]), .m (.i .i64 e)]
def outside (a x : Int) : Bool := decide (a < x) || decide (x < -a)
def cutV (a : Int) (r : Int × List (List Int)) : V := if r.1 = 0 then frmV a r.2 else errV r.1
def numsV : Option (List Int) → V
  | some (a :: b :: l) => if a < 0 ∨ b < 0 then errV 15 else if 65536 < a then errV 5 else if l.any (outside a) = true then errV 5 else if 262144 < b then errV 6 else cutV a (cutI b.toNat l [])
  | _ => errV 15
def headOk (ws : List (List Nat)) : Bool := decide (4 ≤ ws.length) && decide (ws.take 2 = [[112], [99, 110, 102]])
def parseV (s : List Nat) : V := if headOk (txtW s) = true then numsV (numsI ((txtW s).drop 2)) else errV 15

theorem numsR_V (ws : List (List Nat)) : numsV (numsR 2 ws) = numsV (numsI ws) := by
  cases ws with
  | nil => rfl
  | cons u r =>
    cases r with
    | nil =>
      simp only [numsR, numsI]
      by_cases hu : (numR u).2 = true <;> by_cases hu0 : (numR u).1 < 0 <;> simp [hu, hu0, numsV]
    | cons v t =>
      simp only [numsR, numsI, numsR_0]
      by_cases hu : (numR u).2 = true <;> by_cases hu0 : (numR u).1 < 0 <;> by_cases hv : (numR v).2 = true <;> by_cases hv0 : (numR v).1 < 0 <;> cases ht : numsI t <;> simp [hu, hu0, hv, hv0, numsR_0, ht, numsV]
end Go.Mx.Tryz
