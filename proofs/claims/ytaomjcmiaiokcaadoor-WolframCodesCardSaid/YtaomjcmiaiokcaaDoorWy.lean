/- Walking the machine: rules for rows of mutable memory. -/
import Derived.Test.YtaomjcmiaiokcaaDoorWx
namespace Go.Mx

/- Rows of one cell an element. -/
@[simp] theorem loud_mks (c : Call) (M : Mem) (ty esz : Nat) (z : List V) (b : Nat) (a : V) (n : Int) : loudX c M (.mks ty esz z b) [a, .m (.i .i64 n)] = (nat? n).bind fun c => (bnd c a).bind fun n => gd (Nat.ble (c * b) 281474976710656 && Nat.ble c 9223372036854775807 && Nat.ble 1 esz && Nat.beq z.length esz)
      (some (.sl M.H.length n esz 0 n (Nat.beq n c), { M with H := M.H ++ [.cs ty esz (List.replicate n z) 0 false] })) := by
  cases n <;> rfl
@[simp] theorem nat?_cast (n : Nat) : nat? (n : Int) = some n := rfl
@[simp] theorem readR_10 (es : List (List V)) (ix : Nat) : readR 1 es ix 0 1 = (nth es ix).bind fun e => takeN 1 e := rfl
@[simp] theorem writeA_row (M : Mem) (xs : List V) (r ver ix off : Nat) : writeA M xs (.pt r ver ix off) = (nth M.H r).bind fun row => match row with
    | .cs ty esz es _ fz => gd (!fz && Nat.beq ver es.length) ((writeR esz es ix off xs).bind fun es' => (setEl M.H r (.cs ty esz es' es.length false)).bind fun H' => some { M with H := H' })
    | _ => none := rfl
@[simp] theorem writeR_10 (es : List (List V)) (ix : Nat) (x : V) : writeR 1 es ix 0 [x] = (nth es ix).bind fun e => (putAt e 0 [x]).bind fun e' => setEl es ix e' := rfl
theorem setEl_put {α : Type} : ∀ (l : List α) (n : Nat) (x : α), n < l.length → setEl l n x = some (l.set n x)
  | [], n, x, h => by simp at h
  | _ :: r, 0, x, h => rfl
  | y :: r, n + 1, x, h => by
    simp only [List.length_cons] at h
    rw [setEl_succ, setEl_put r n x (by omega)]
    rfl
@[simp] theorem getB_set_ne : ∀ (B : List (Nat × List V)) (m n : Nat) (x : List V), m ≠ n → getB (setB B m x) n = getB B n
  | [], m, n, x, h => by simp [h]
  | (k, y) :: r, m, n, x, h => by
    rw [setB_cons]
    by_cases h2 : k = m
    · subst h2
      rw [if_pos rfl, getB_cons, getB_cons, if_neg h, if_neg h]
    · rw [if_neg h2, getB_cons, getB_cons, getB_set_ne r m n x h]
end Go.Mx
