/- Lists of elements of one length, laid one behind the other. -/
import Derived.Test.YtaomjcmiaiokcaaDoorMach
namespace Go.Mx
section
variable {α : Type}

def Uni (n : Nat) (es : List (List α)) : Prop := ∀ e, e ∈ es → e.length = n

theorem Uni.tail {n : Nat} {e : List α} {es : List (List α)} (h : Uni n (e :: es)) : Uni n es := fun x hx => h x (by simp [hx])
theorem Uni.head {n : Nat} {e : List α} {es : List (List α)} (h : Uni n (e :: es)) : e.length = n := h e (by simp)
theorem Uni.len {n : Nat} : ∀ {es : List (List α)}, Uni n es → es.flatten.length = es.length * n
  | [], _ => by simp
  | e :: es, h => by simp [h.head, h.tail.len, Nat.add_mul]; omega
theorem Uni.append {n : Nat} {es fs : List (List α)} (h : Uni n es) (k : Uni n fs) : Uni n (es ++ fs) := fun x hx => by
  rcases List.mem_append.1 hx with h' | h'
  · exact h x h'
  · exact k x h'
theorem Uni.take {n : Nat} {es : List (List α)} (h : Uni n es) (k : Nat) : Uni n (es.take k) := fun x hx => h x (List.mem_of_mem_take hx)
theorem Uni.drop {n : Nat} {es : List (List α)} (h : Uni n es) (k : Nat) : Uni n (es.drop k) := fun x hx => h x (List.mem_of_mem_drop hx)
theorem Uni.replicate {n k : Nat} {e : List α} (h : e.length = n) : Uni n (List.replicate k e) := fun x hx => by rw [(List.mem_replicate.1 hx).2]; exact h
theorem Uni.get {n : Nat} {es : List (List α)} (h : Uni n es) {i : Nat} {e : List α} (he : es[i]? = some e) : e.length = n := h e (List.mem_of_getElem? he)
theorem drop_app {n k : Nat} {e f : List α} (h : e.length = n) : (e ++ f).drop (k + n) = f.drop k := by
  rw [Nat.add_comm, ← List.drop_drop, ← h, List.drop_left]
theorem take_app {n k : Nat} {e f : List α} (h : e.length = n) : (e ++ f).take (k + n) = e ++ f.take k := by
  rw [Nat.add_comm, List.take_add, ← h, List.take_left, List.drop_left]
theorem flat_drop {n : Nat} : ∀ {es : List (List α)}, Uni n es → ∀ k, (es.drop k).flatten = es.flatten.drop (k * n)
  | [], _, k => by simp
  | e :: es, h, 0 => by simp
  | e :: es, h, k + 1 => by
    rw [List.drop_succ_cons, flat_drop h.tail k, List.flatten_cons, Nat.add_mul, Nat.one_mul, drop_app h.head]
theorem flat_take {n : Nat} : ∀ {es : List (List α)}, Uni n es → ∀ k, (es.take k).flatten = es.flatten.take (k * n)
  | [], _, k => by simp
  | e :: es, h, 0 => by simp
  | e :: es, h, k + 1 => by
    rw [List.take_succ_cons, List.flatten_cons, flat_take h.tail k, List.flatten_cons, Nat.add_mul, Nat.one_mul, take_app h.head]
theorem flat_get {n : Nat} {es : List (List α)} (h : Uni n es) {i : Nat} {e : List α} (he : es[i]? = some e) : e = (es.flatten.drop (i * n)).take n := by
  have hl := (List.getElem?_eq_some_iff.1 he).1
  rw [← flat_drop h, List.drop_eq_getElem_cons hl, List.flatten_cons]
  have hi : es[i] = e := (List.getElem?_eq_some_iff.1 he).2
  rw [hi, List.take_append, List.take_of_length_le (by rw [h.get he]; exact Nat.le_refl _), h.get he]
  simp
theorem flat_cell {n : Nat} {es : List (List α)} (h : Uni n es) {i : Nat} {e : List α} (he : es[i]? = some e) {j : Nat} {x : α} (hj : e[j]? = some x) : es.flatten[i * n + j]? = some x := by
  rw [flat_get h he] at hj
  rw [List.getElem?_take] at hj
  split at hj
  · rwa [List.getElem?_drop] at hj
  · cases hj
theorem flat_inv {n : Nat} (hn : 0 < n) {es : List (List α)} (h : Uni n es) {p : Nat} {x : α} (hp : es.flatten[p]? = some x) : ∃ e, es[p / n]? = some e ∧ e[p % n]? = some x := by
  have hl : p < es.length * n := by rw [← h.len]; exact (List.getElem?_eq_some_iff.1 hp).1
  have hd : p / n < es.length := (Nat.div_lt_iff_lt_mul hn).2 hl
  refine ⟨es[p / n], List.getElem?_eq_getElem hd, ?_⟩
  rw [flat_get h (List.getElem?_eq_getElem hd), List.getElem?_take, if_pos (Nat.mod_lt _ hn), List.getElem?_drop]
  have : p / n * n + p % n = p := by rw [Nat.mul_comm]; exact Nat.div_add_mod p n
  rw [this]; exact hp
theorem chunk_len (n : Nat) : ∀ (k : Nat) (l : List α), (chunk n k l).length = k
  | 0, _ => rfl
  | k + 1, l => by simp [chunk, chunk_len n k]
theorem chunk_uni (n : Nat) : ∀ (k : Nat) (l : List α), k * n ≤ l.length → Uni n (chunk n k l)
  | 0, _, _ => fun _ h => by simp [chunk] at h
  | k + 1, l, h => fun x hx => by
    rw [Nat.add_mul, Nat.one_mul] at h
    simp only [chunk, List.mem_cons] at hx
    rcases hx with rfl | hx
    · simp; omega
    · exact chunk_uni n k (l.drop n) (by simp; omega) x hx
theorem chunk_flat (n : Nat) : ∀ (k : Nat) (l : List α), k * n ≤ l.length → (chunk n k l).flatten = l.take (k * n)
  | 0, _, _ => by simp [chunk]
  | k + 1, l, h => by
    rw [Nat.add_mul, Nat.one_mul] at h ⊢
    rw [chunk, List.flatten_cons, chunk_flat n k _ (by simp; omega), Nat.add_comm (k * n) n, List.take_add]
theorem setEl_eq : ∀ {l : List α} {i : Nat} {x : α} {l' : List α}, setEl l i x = some l' → i < l.length ∧ l' = l.set i x
  | [], i, x, l', h => by simp [setEl] at h
  | y :: l, 0, x, l', h => by simp [setEl] at h; simp [← h]
  | y :: l, i + 1, x, l', h => by
    simp only [setEl, Option.bind_eq_some_iff, Option.some.injEq] at h
    obtain ⟨m, hm, rfl⟩ := h
    obtain ⟨h1, rfl⟩ := setEl_eq hm
    exact ⟨by simp; omega, rfl⟩
theorem Uni.set {n : Nat} {es : List (List α)} (h : Uni n es) {i : Nat} {e : List α} (he : e.length = n) : Uni n (es.set i e) := fun x hx => by
  rcases List.mem_or_eq_of_mem_set hx with h' | h'
  · exact h x h'
  · rw [h']; exact he
/-- One element set: its cells are. -/
theorem flat_set {n : Nat} : ∀ {es : List (List α)}, Uni n es → ∀ {i : Nat} {e : List α}, i < es.length → e.length = n → (es.set i e).flatten = es.flatten.take (i * n) ++ e ++ es.flatten.drop (i * n + n)
  | [], _, i, e, hi, _ => by simp at hi
  | x :: es, h, 0, e, _, he => by
    have hx := drop_app (k := 0) (f := es.flatten) h.head
    rw [List.set_cons_zero, List.flatten_cons, List.flatten_cons, Nat.zero_mul, hx]
    simp
  | x :: es, h, i + 1, e, hi, he => by
    rw [List.set_cons_succ, List.flatten_cons, flat_set h.tail (by simpa using hi) he, List.flatten_cons, Nat.add_mul, Nat.one_mul, take_app h.head,
      show i * n + n + n = (i * n + n) + n from rfl, drop_app h.head]
    simp only [List.append_assoc]
end
end Go.Mx
