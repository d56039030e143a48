/- slices.IndexFunc and slices.ContainsFunc over lists of ints. -/
import Derived.Test.YtaomjcmiaiokcaaDoorLoops
set_option maxRecDepth 100000
namespace Go.Mx.Tryd
def cells1 (l : List Int) : List (List I) := l.map fun x => [.i .i64 x]

theorem idxf_loop (f : Nat) (cap : List I) (p : Int → Bool) (l : List Int) (hl : (l.length : Int) ≤ 9223372036854775807) (hf : ∀ x, x ∈ l → Gives G f (.m (.i .i64 x) :: cap.map .m) [] (.m (.b (p x))) []) (k : K) (Py Pn : Prop)
    (hr : ∀ (j : Nat) E, getE E 4 = some (.m (.i .i64 j)) → At' G .ret ⟨E, [], ⟨[], []⟩⟩ k = Py) (he : ∀ E, At' G (.ex 0) ⟨E, [], ⟨[], []⟩⟩ k = Pn) :
    ∀ (r : List Int) (i : Nat), l.drop i = r → i ≤ l.length → Run G c35_B0 ⟨[(0, .m (.sl (cells1 l))), (1, .m (.fn f cap)), (7, .m (.i .i64 l.length)), (8, .m (.i .i64 i))], [], ⟨[], []⟩⟩ (.seq c35_L0 k) = if r.any p then Py else Pn
  | [], i, hd, hi => by
    have : i = l.length := by
      have := congrArg List.length hd
      simp at this
      omega
    subst this
    unfold c35_B0
    simp [he]
  | x :: r, i, hd, hi => by
    have hlt : i < l.length := by
      have := congrArg List.length hd
      simp at this
      omega
    have hx : l[i]? = some x := by
      have := congrArg (fun t => t[0]?) hd
      simpa using this
    have hm : x ∈ l := List.mem_of_getElem? hx
    have hn : nth (cells1 l) i = some [.i .i64 x] := by rw [nth_get]; simp [cells1, hx]
    have hlen : (cells1 l).length = l.length := by simp [cells1]
    have ih := idxf_loop f cap p l hl hf k Py Pn hr he r (i + 1) (by rw [← List.drop_drop, hd]; rfl) (by omega)
    have hw : wr .i64 ((i : Int) + 1) = ((i + 1 : Nat) : Int) := by rw [wr_i64 (by omega) (by omega)]; rfl
    have hlt' : (i : Int) < l.length := by omega
    have hi0 : (0 : Int) ≤ i := by omega
    cases hp : p x with
    | true =>
      have hg : Gives G f (.m (.i .i64 x) :: cap.map .m) [] (.m (.b true)) [] := hp ▸ hf x hm
      unfold c35_B0
      simp [hlt, hn, hlen, wc hg, hp, hr i]
    | false =>
      have hg : Gives G f (.m (.i .i64 x) :: cap.map .m) [] (.m (.b false)) [] := hp ▸ hf x hm
      unfold c35_B0
      simp [hlt, hn, hlen, wc hg, hp, hw, -Int.natCast_add]
      rw [ih]
      simp

theorem idxf (f : Nat) (cap : List I) (p : Int → Bool) (l : List Int) (hl : (l.length : Int) ≤ 9223372036854775807) (hf : ∀ x, x ∈ l → Gives G f (.m (.i .i64 x) :: cap.map .m) [] (.m (.b (p x))) []) (H : Hp) :
    ∃ j : Int, Gives G 35 [.m (.sl (cells1 l)), .m (.fn f cap)] H (.m (.i .i64 j)) H ∧ (0 ≤ j) = (l.any p = true) := by
  have h : Ret G 35 [.m (.sl (cells1 l)), .m (.fn f cap)] H (fun v H' => H' = H ∧ ∃ j : Int, v = .m (.i .i64 j) ∧ (0 ≤ j) = (l.any p = true)) := by
    refine ret_pur rfl rfl rfl rfl rfl ?_
    have key := fun k Py Pn hr he => idxf_loop f cap p l hl hf k Py Pn hr he l 0 rfl (Nat.zero_le _)
    have z : ((0 : Nat) : Int) = 0 := rfl
    have hlen : (cells1 l).length = l.length := by simp [cells1]
    simp only [z] at key
    simp [hlen]
    rw [key _ (l.any p = true) (l.any p = false)]
    · cases l.any p <;> simp
    · intro j E hE
      simp [hE]
    · intro E
      have : ¬ (0 ≤ (-1 : Int)) := by omega
      simp
  obtain ⟨n, v, H', h1, rfl, j, rfl, hj⟩ := h
  exact ⟨j, ⟨n, h1⟩, hj⟩

theorem contf (f : Nat) (cap : List I) (p : Int → Bool) (l : List Int) (hl : (l.length : Int) ≤ 9223372036854775807) (hf : ∀ x, x ∈ l → Gives G f (.m (.i .i64 x) :: cap.map .m) [] (.m (.b (p x))) []) (H : Hp) :
    Gives G 25 [.m (.sl (cells1 l)), .m (.fn f cap)] H (.m (.b (l.any p))) H := by
  refine gives_pur rfl rfl rfl rfl rfl ?_
  obtain ⟨j, h1, h2⟩ := idxf f cap p l hl hf []
  have h3 : decide (0 ≤ j) = l.any p := by
    rw [Bool.eq_iff_iff, decide_eq_true_eq, h2]
  simp only [cells1] at h1
  simp [wc h1, h3, cells1, -List.any_eq_true]
end Go.Mx.Tryd
