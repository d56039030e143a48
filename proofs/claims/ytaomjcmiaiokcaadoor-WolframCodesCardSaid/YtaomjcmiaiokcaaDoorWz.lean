/- Walking the machine: appending to rows of ints. -/
import Derived.Test.YtaomjcmiaiokcaaDoorWy
namespace Go.Mx
def rowsI (l : List Int) : List (List V) := l.map fun x => [.m (.i .i64 x)]
def celI (l : List Int) : List (List I) := l.map fun x => [.i .i64 x]
theorem rowsI_len (l : List Int) : (rowsI l).length = l.length := by simp [rowsI]
theorem celI_len (l : List Int) : (celI l).length = l.length := by simp [celI]
theorem rowsI_snoc (l : List Int) (x : Int) : rowsI l ++ [[.m (.i .i64 x)]] = rowsI (l ++ [x]) := by simp [rowsI]
theorem celI_nth {l : List Int} {i : Nat} {x : Int} (h : l[i]? = some x) : nth (celI l) i = some [.i .i64 x] := by
  rw [nth_get]; simp [celI, h]
@[simp] theorem appX_nl (M : Mem) (ty esz b : Nat) (x : List V) (xs : List (List V)) : appX M ty esz b (.m (.nl 4)) (x :: xs) = newRow M ty esz b (x :: xs) := rfl
@[simp] theorem newRow_eq (M : Mem) (ty esz b : Nat) (es : List (List V)) : newRow M ty esz b es = gd (Nat.ble (es.length * b) 140737488355328 && Nat.ble 1 esz && es.all fun e => Nat.beq e.length esz && e.all oneV)
    (some (.sl M.H.length es.length esz 0 es.length false, { M with H := M.H ++ [.cs ty esz es 0 false] })) := rfl
theorem appX_int (B : List (Nat × List V)) (ty b n : Nat) (l : List Int) (x : Int) (hn : l.length = n) (hb : (n + 1) * b ≤ 140737488355328) : appX ⟨B, [.cs ty 1 (rowsI l) 0 false]⟩ ty 1 b (.sl 0 n 1 0 n false) [[.m (.i .i64 x)]] = some (.sl 0 (n + 1) 1 0 (n + 1) false, ⟨B, [.cs ty 1 (rowsI (l ++ [x])) 0 false]⟩) := by
  have h1 : (rowsI l).length = n := by rw [rowsI_len, hn]
  show gd (!false && Nat.beq ty ty && Nat.beq 1 1 && Nat.beq 1 1 && Nat.beq 0 0 && Nat.beq n (rowsI l).length && Nat.beq n (rowsI l).length && Nat.ble (((rowsI l).length + 1) * b) 140737488355328 && _) _ = _
  rw [h1]
  simp [hb, setEl, rowsI_snoc, h1]
theorem view_int (ty : Nat) (l : List Int) (n : Nat) (lim : Bool) (hn : l.length = n) : view 20 [.cs ty 1 (rowsI l) 0 false] (.sl 0 n 1 0 n lim) = some (.sl (celI l)) := by
  have h1 : elems [.cs ty 1 (rowsI l) 0 false] (.sl 0 n 1 0 n lim) = some (rowsI l) := by
    show gd (Nat.ble 0 n && Nat.beq 1 1) (some (((rowsI l).drop 0).take n)) = _
    have : ((rowsI l).drop 0).take n = rowsI l := by
      rw [List.drop_zero, List.take_of_length_le]
      rw [rowsI_len, hn]; omega
    rw [this]
    simp
  have h0 : ∀ (H : Hp), view 20 H (.sl 0 n 1 0 n lim) = (elems H (.sl 0 n 1 0 n lim)).bind fun es => (optMap (fun e => optMap (view 19 H) e) es).bind fun l => some (.sl l) := fun H => rfl
  rw [h0, h1]
  have h2 : ∀ (m : List Int), optMap (fun e => optMap (view 19 [.cs ty 1 (rowsI l) 0 false]) e) (rowsI m) = some (celI m) := by
    intro m
    induction m with
    | nil => rfl
    | cons x r ih =>
      show (optMap (view 19 [.cs ty 1 (rowsI l) 0 false]) [.m (.i .i64 x)]).bind (fun a => (optMap _ (rowsI r)).bind fun l => some (a :: l)) = _
      rw [ih]
      rfl
  simp only [Option.bind_some, h2]
end Go.Mx
