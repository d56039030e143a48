/- Patterns: both texts of Right say the same. -/
import Derived.Test.YtjkepihkilnjiaaDoorLoops
set_option maxRecDepth 100000
namespace Go.Mx.Tryd

/-- A cell: x, y, state. -/
structure Ce where
  x : Int
  y : Int
  s : Int
def Ce.i (c : Ce) : List I := [.i .i64 c.x, .i .i64 c.y, .i .i64 c.s]
def cells3 (p : List Ce) : List (List I) := p.map Ce.i
theorem cells3_len (p : List Ce) : (cells3 p).length = p.length := by simp [cells3]
theorem cells3_nth {p : List Ce} {i : Nat} {c : Ce} (h : p[i]? = some c) : nth (cells3 p) i = some [.i .i64 c.x, .i .i64 c.y, .i .i64 c.s] := by
  rw [nth_get]
  simp [cells3, h, Ce.i]

def placed (x y : Int) : Bool := decide (-1048576 ≤ x ∧ x ≤ 1048576 ∧ -1048576 ≤ y ∧ y ≤ 1048576)
def less (a b : Ce) : Bool := decide (a.y < b.y ∨ (a.y = b.y ∧ a.x < b.x))
def good (c : Ce) : Bool := placed c.x c.y && decide (1 ≤ c.s) && decide (c.s < 8)
def chain : Option Ce → List Ce → Bool
  | _, [] => true
  | none, c :: r => good c && chain (some c) r
  | some a, c :: r => good c && less a c && chain (some c) r
def right (p : List Ce) : Bool := decide (p.length ≤ 5000) && chain none p

theorem placed_s (x y : Int) (H : Hp) : Gives G 48 [.m (.ag [.i .i64 x, .i .i64 y])] H (.m (.b (placed x y))) H := by
  refine gives_pur rfl rfl rfl rfl rfl ?_
  by_cases h1 : max x y ≤ 1048576
  · have : decide (-1048576 ≤ min x y) = placed x y := by
      unfold placed
      rw [decide_eq_decide]
      omega
    simp [h1, this]
  · have : placed x y = false := by
      unfold placed
      rw [decide_eq_false_iff_not]
      omega
    simp [h1, this]
theorem placed_r (x y : Int) (H : Hp) : Gives G 44 [.m (.i .i64 x), .m (.i .i64 y)] H (.m (.b (placed x y))) H := by
  refine gives_pur rfl rfl rfl rfl rfl ?_
  unfold placed
  by_cases h1 : -1048576 ≤ x
  · by_cases h2 : x ≤ 1048576
    · by_cases h3 : -1048576 ≤ y
      · simp [h1, h2, h3]
      · simp [h1, h2, h3]
    · simp [h1, h2]
  · simp [h1]
theorem at_s (c : Ce) (H : Hp) : Gives G 49 [.m (.ag [.i .i64 c.x, .i .i64 c.y, .i .i64 c.s])] H (.m (.ag [.i .i64 c.x, .i .i64 c.y])) H := by
  refine gives_pur rfl rfl rfl rfl rfl ?_
  simp
theorem nan_s (x : Int) (H : Hp) : Gives G 76 [.m (.i .i64 x)] H (.m (.b false)) H := by
  refine gives_pur rfl rfl rfl rfl rfl ?_
  simp
def cmpI (x y : Int) : Int := if x < y then -1 else if y < x then 1 else 0
theorem cmp_s (x y : Int) (H : Hp) : Gives G 68 [.m (.i .i64 x), .m (.i .i64 y)] H (.m (.i .i64 (cmpI x y))) H := by
  refine gives_pur rfl rfl rfl rfl rfl ?_
  unfold cmpI
  by_cases h1 : x < y
  · simp [wc (nan_s x []), wc (nan_s y []), h1]
  · by_cases h2 : y < x
    · simp [wc (nan_s x []), wc (nan_s y []), h1, h2]
    · simp [wc (nan_s x []), wc (nan_s y []), h1, h2]
theorem or2_s (a b : Int) (H : Hp) : Gives G 67 [.m (.sl [[.i .i64 a], [.i .i64 b]])] H (.m (.i .i64 (if a = 0 then b else a))) H := by
  refine gives_pur rfl rfl rfl rfl rfl ?_
  by_cases h1 : a = 0
  · by_cases h2 : b = 0
    · simp [h1, h2, wr_i64, c67_B0]
    · simp [h1, h2, wr_i64, c67_B0]
  · simp [h1, wr_i64, c67_B0]
theorem pcmp_s (x y z w : Int) (H : Hp) : Gives G 59 [.m (.ag [.i .i64 x, .i .i64 y]), .m (.ag [.i .i64 z, .i .i64 w])] H (.m (.i .i64 (if cmpI y w = 0 then cmpI x z else cmpI y w))) H := by
  refine gives_pur rfl rfl rfl rfl rfl ?_
  have hv := gives_view (vs := [.ls [[.i .i64 (cmpI y w)], [.i .i64 (cmpI x z)]]]) (H := []) rfl rfl (or2_s (cmpI y w) (cmpI x z) []) rfl (.inl ⟨rfl, rfl⟩)
  simp [wc (cmp_s y w []), wc (cmp_s x z []), wc hv]
theorem order_s (a b : Ce) (H : Hp) : Gives G 50 [.m (.ag [.i .i64 a.x, .i .i64 a.y, .i .i64 a.s]), .m (.ag [.i .i64 b.x, .i .i64 b.y, .i .i64 b.s])] H (.m (.i .i64 (if cmpI a.y b.y = 0 then cmpI a.x b.x else cmpI a.y b.y))) H := by
  refine gives_pur rfl rfl rfl rfl rfl ?_
  simp [wc (at_s a []), wc (at_s b []), wc (pcmp_s a.x a.y b.x b.y [])]
theorem order_less (a b : Ce) : decide (0 ≤ (if cmpI a.y b.y = 0 then cmpI a.x b.x else cmpI a.y b.y)) = !less a b := by
  unfold less cmpI
  rw [← decide_not, decide_eq_decide]
  by_cases h1 : a.y < b.y
  · simp [h1]
  · by_cases h2 : b.y < a.y
    · simp [h1, h2]; omega
    · have : a.y = b.y := by omega
      simp only [this, Int.lt_irrefl, if_false, if_true, false_or, true_and]
      by_cases h3 : a.x < b.x
      · simp [h3]
      · by_cases h4 : b.x < a.x <;> simp [h3, h4]
theorem before_r (a b : Ce) (H : Hp) : Gives G 45 [.m (.ag [.i .i64 a.x, .i .i64 a.y, .i .i64 a.s]), .m (.ag [.i .i64 b.x, .i .i64 b.y, .i .i64 b.s])] H (.m (.b (less a b))) H := by
  refine gives_pur rfl rfl rfl rfl rfl ?_
  unfold less
  by_cases h1 : a.y < b.y
  · simp [h1]
  · by_cases h2 : a.y = b.y
    · simp [h1, h2]
    · simp [h1, h2]

/-- The cell ahead of place i. -/
def prev (p : List Ce) : Nat → Option Ce
  | 0 => none
  | i + 1 => p[i]?

theorem drop_cons {p r : List Ce} {c : Ce} {i : Nat} (hd : p.drop i = c :: r) : i < p.length ∧ p[i]? = some c ∧ p.drop (i + 1) = r := by
  have h1 : i < p.length := by
    have := congrArg List.length hd
    simp at this
    omega
  have h2 : p[i]? = some c := by
    have := congrArg (fun t => t[0]?) hd
    simpa using this
  exact ⟨h1, h2, by rw [← List.drop_drop, hd]; rfl⟩
theorem drop_nil {p : List Ce} {i : Nat} (hd : p.drop i = []) (hi : i ≤ p.length) : i = p.length := by
  have := congrArg List.length hd
  simp at this
  omega

theorem right_s_loop (p : List Ce) (hl : (p.length : Int) ≤ 9223372036854775807) (k : K) (Pf Pt : Prop)
    (hr : ∀ E B, getE E 2 = some (.m (.b false)) → At' G .ret ⟨E, [], ⟨B, []⟩⟩ k = Pf) (he : ∀ E B, At' G (.ex 0) ⟨E, [], ⟨B, []⟩⟩ k = Pt) :
    ∀ (r : List Ce) (i : Nat) (B : List (Nat × List V)), p.drop i = r → i ≤ p.length →
      Run G c25_B0 ⟨[(0, .m (.sl (cells3 p))), (7, .m (.b false)), (8, .m (.sl (cells3 p))), (9, .m (.i .i64 p.length)), (10, .m (.i .i64 i))], [], ⟨B, []⟩⟩ (.seq c25_L0 k) = if chain (prev p i) r then Pt else Pf
  | [], i, B, hd, hi => by
    have := drop_nil hd hi
    subst this
    have : chain (prev p p.length) [] = true := by cases prev p p.length <;> rfl
    unfold c25_B0
    simp [he, this]
  | c :: r, i, B, hd, hi => by
    obtain ⟨hlt, hx, hd'⟩ := drop_cons hd
    have hn := cells3_nth hx
    have hlen := cells3_len p
    have hlt' : (i : Int) < p.length := by omega
    have hw : wr .i64 ((i : Int) + 1) = ((i + 1 : Nat) : Int) := by rw [wr_i64 (by omega) (by omega)]; rfl
    have ih := right_s_loop p hl k Pf Pt hr he r (i + 1)
    by_cases hg : good c = true
    · have hg' := hg
      simp only [good, Bool.and_eq_true, decide_eq_true_eq] at hg'
      obtain ⟨⟨hp, hs1⟩, hs8⟩ := hg'
      have gp := hp ▸ placed_s c.x c.y []
      have n1 : ¬ c.s < 1 := by omega
      have n8 : ¬ 8 ≤ c.s := by omega
      cases i with
      | zero =>
        have e : chain (prev p 0) (c :: r) = chain (prev p 1) r := by
          have : prev p 1 = some c := hx
          rw [this]
          show (good c && chain (some c) r) = _
          rw [hg, Bool.true_and]
        rw [e]
        unfold c25_B0
        simp [hlt, hn, hlen, wc (at_s c []), wc gp, n1, n8, hs1, hs8] at hw ⊢
        simp [hw]
        exact Eq.to_iff (by simpa using ih _ hd' hlt)
      | succ j =>
        have hj : j < p.length := by omega
        obtain ⟨a, ha⟩ : ∃ a, p[j]? = some a := ⟨p[j], List.getElem?_eq_getElem hj⟩
        have hna := cells3_nth ha
        have e : chain (prev p (j + 1)) (c :: r) = (less a c && chain (prev p (j + 1 + 1)) r) := by
          have h1 : prev p (j + 1 + 1) = some c := hx
          have h2 : prev p (j + 1) = some a := ha
          rw [h1, h2]
          show (good c && less a c && chain (some c) r) = _
          rw [hg, Bool.true_and]
        have hpos : (0 : Int) < (j : Int) + 1 := by omega
        have hlt2 : (j : Int) + 1 < p.length := by omega
        have hj2 : (j : Int) < p.length := by omega
        have hj0 : (0 : Int) ≤ (j : Int) + 1 := by omega
        have wj : wr .i64 (j : Int) = j := wr_i64 (by omega) (by omega)
        have wj2 : wr .i64 ((j : Int) + 1 + 1) = (j : Int) + 1 + 1 := wr_i64 (by omega) (by omega)
        have htn : ((j : Int) + 1).toNat = j + 1 := by omega
        have ih := ih (setB B 4 [.m (.i .i64 c.x), .m (.i .i64 c.y), .m (.i .i64 c.s)]) hd' hlt
        have ho := order_less a c
        have go := order_s a c []
        generalize (if cmpI a.y c.y = 0 then cmpI a.x c.x else cmpI a.y c.y) = o at ho go
        rw [e]
        cases hls : less a c with
        | true =>
          rw [hls] at ho
          have ho := of_decide_eq_false ho
          unfold c25_B0
          simp [hlt2, hj2, hj0, htn, hn, hna, hlen, wc (at_s c []), wc gp, n1, n8, hpos, wc go, ho, wj, wj2]
          simpa using ih
        | false =>
          rw [hls] at ho
          have ho := of_decide_eq_true ho
          unfold c25_B0
          simp [hlt2, hj2, hj0, htn, hn, hna, hlen, wc (at_s c []), wc gp, n1, n8, hpos, wc go, ho, wj, wj2, hr]
    · have hgf : good c = false := by simpa using hg
      have e : chain (prev p i) (c :: r) = false := by
        cases prev p i with
        | none => show (good c && _) = false; rw [hgf]; rfl
        | some a => show (good c && _ && _) = false; rw [hgf]; rfl
      rw [e]
      cases hp : placed c.x c.y with
      | false =>
        have gp := hp ▸ placed_s c.x c.y []
        unfold c25_B0
        simp [hlt, hn, hlen, wc (at_s c []), wc gp, hr]
      | true =>
        have gp := hp ▸ placed_s c.x c.y []
        by_cases hs1 : c.s < 1
        · unfold c25_B0
          simp [hlt, hn, hlen, wc (at_s c []), wc gp, hr, hs1]
        · have hs8 : 8 ≤ c.s := by
            simp only [good, hp, Bool.true_and, Bool.and_eq_false_iff, decide_eq_false_iff_not] at hgf
            omega
          unfold c25_B0
          simp [hlt, hn, hlen, wc (at_s c []), wc gp, hr, hs1, hs8]

theorem right_s (p : List Ce) (hl : (p.length : Int) ≤ 9223372036854775807) (H : Hp) : Gives G 25 [.m (.sl (cells3 p))] H (.m (.b (right p))) H := by
  refine gives_pur rfl rfl rfl rfl rfl ?_
  have hlen := cells3_len p
  unfold right
  by_cases h : p.length ≤ 5000
  · have h' : ¬ (5000 : Int) < p.length := by omega
    have key := fun k Pf Pt hr he => right_s_loop p hl k Pf Pt hr he p 0 [] rfl (Nat.zero_le _)
    have z : ((0 : Nat) : Int) = 0 := rfl
    simp only [z] at key
    simp [h, h', hlen]
    rw [key _ (false = chain none p) (true = chain none p)]
    · show if chain none p = true then _ else _
      cases chain none p <;> simp
    · intro E B hE
      simp [hE]
    · intro E B
      simp
  · have h' : (5000 : Int) < p.length := by omega
    simp [h, h', hlen]
theorem right_s0 (H : Hp) : Gives G 25 [.m (.nl 4)] H (.m (.b (right []))) H := by
  refine gives_pur rfl rfl rfl rfl rfl ?_
  simp [right, chain, c25_B0]

theorem right_r_loop (p : List Ce) (hl : (p.length : Int) ≤ 9223372036854775807) (k : K) (Pf Pt : Prop)
    (hr : ∀ E, getE E 2 = some (.m (.b false)) → At' G .ret ⟨E, [], ⟨[], []⟩⟩ k = Pf) (he : ∀ E, getE E 0 = some (.m (.sl (cells3 p))) → At' G (.ex 0) ⟨E, [], ⟨[], []⟩⟩ k = Pt) :
    ∀ (r : List Ce) (i : Nat), p.drop i = r → i ≤ p.length →
      Run G c22_B0 ⟨[(0, .m (.sl (cells3 p))), (3, .m (.i .i64 i))], [], ⟨[], []⟩⟩ (.seq c22_L0 k) = if chain (prev p i) r then Pt else Pf
  | [], i, hd, hi => by
    have := drop_nil hd hi
    subst this
    have : chain (prev p p.length) [] = true := by cases prev p p.length <;> rfl
    have hlen := cells3_len p
    unfold c22_B0
    simp [he, this, hlen]
  | c :: r, i, hd, hi => by
    obtain ⟨hlt, hx, hd'⟩ := drop_cons hd
    have hn := cells3_nth hx
    have hlen := cells3_len p
    have hlt' : (i : Int) < p.length := by omega
    have hw : wr .i64 ((i : Int) + 1) = ((i + 1 : Nat) : Int) := by rw [wr_i64 (by omega) (by omega)]; rfl
    have ih := right_r_loop p hl k Pf Pt hr he r (i + 1)
    by_cases hg : good c = true
    · have hg' := hg
      simp only [good, Bool.and_eq_true, decide_eq_true_eq] at hg'
      obtain ⟨⟨hp, hs1⟩, hs8⟩ := hg'
      have gp := hp ▸ placed_r c.x c.y []
      have n1 : ¬ c.s < 1 := by omega
      have n8 : ¬ 8 ≤ c.s := by omega
      cases i with
      | zero =>
        have e : chain (prev p 0) (c :: r) = chain (prev p 1) r := by
          have : prev p 1 = some c := hx
          rw [this]
          show (good c && chain (some c) r) = _
          rw [hg, Bool.true_and]
        rw [e]
        unfold c22_B0
        simp [hlt, hn, hlen, wc gp, n1, n8, hs1, hs8] at hw ⊢
        simp [hw]
        exact Eq.to_iff (by simpa using ih hd' hlt)
      | succ j =>
        have hj : j < p.length := by omega
        obtain ⟨a, ha⟩ : ∃ a, p[j]? = some a := ⟨p[j], List.getElem?_eq_getElem hj⟩
        have hna := cells3_nth ha
        have e : chain (prev p (j + 1)) (c :: r) = (less a c && chain (prev p (j + 1 + 1)) r) := by
          have h1 : prev p (j + 1 + 1) = some c := hx
          have h2 : prev p (j + 1) = some a := ha
          rw [h1, h2]
          show (good c && less a c && chain (some c) r) = _
          rw [hg, Bool.true_and]
        have hpos : (0 : Int) < (j : Int) + 1 := by omega
        have hlt2 : (j : Int) + 1 < p.length := by omega
        have hj2 : (j : Int) < p.length := by omega
        have hj0 : (0 : Int) ≤ (j : Int) + 1 := by omega
        have wj : wr .i64 (j : Int) = j := wr_i64 (by omega) (by omega)
        have wj2 : wr .i64 ((j : Int) + 1 + 1) = (j : Int) + 1 + 1 := wr_i64 (by omega) (by omega)
        have htn : ((j : Int) + 1).toNat = j + 1 := by omega
        have ih := ih hd' hlt
        have go := before_r a c []
        rw [e]
        cases hls : less a c with
        | true =>
          have go := hls ▸ go
          unfold c22_B0
          simp [hlt2, hj2, hj0, htn, hn, hna, hlen, wc gp, n1, n8, hpos, wc go, wj, wj2]
          simpa using ih
        | false =>
          have go := hls ▸ go
          unfold c22_B0
          simp [hlt2, hj2, hj0, htn, hn, hna, hlen, wc gp, n1, n8, hpos, wc go, wj, wj2, hr]
    · have hgf : good c = false := by simpa using hg
      have e : chain (prev p i) (c :: r) = false := by
        cases prev p i with
        | none => show (good c && _) = false; rw [hgf]; rfl
        | some a => show (good c && _ && _) = false; rw [hgf]; rfl
      rw [e]
      cases hp : placed c.x c.y with
      | false =>
        have gp := hp ▸ placed_r c.x c.y []
        unfold c22_B0
        simp [hlt, hn, hlen, wc gp, hr]
      | true =>
        have gp := hp ▸ placed_r c.x c.y []
        by_cases hs1 : c.s < 1
        · unfold c22_B0
          simp [hlt, hn, hlen, wc gp, hr, hs1]
        · have hs8 : 8 ≤ c.s := by
            simp only [good, hp, Bool.true_and, Bool.and_eq_false_iff, decide_eq_false_iff_not] at hgf
            omega
          unfold c22_B0
          simp [hlt, hn, hlen, wc gp, hr, hs1, hs8]

theorem right_r (p : List Ce) (hl : (p.length : Int) ≤ 9223372036854775807) (H : Hp) : Gives G 22 [.m (.sl (cells3 p))] H (.m (.b (right p))) H := by
  refine gives_pur rfl rfl rfl rfl rfl ?_
  have hlen := cells3_len p
  unfold right
  have key := fun k Pf Pt hr he => right_r_loop p hl k Pf Pt hr he p 0 rfl (Nat.zero_le _)
  have z : ((0 : Nat) : Int) = 0 := rfl
  have h5 : decide ((p.length : Int) ≤ 5000) = decide (p.length ≤ 5000) := by rw [decide_eq_decide]; omega
  simp only [z] at key
  simp
  rw [key _ (false = (decide (p.length ≤ 5000) && chain none p)) (decide (p.length ≤ 5000) = (decide (p.length ≤ 5000) && chain none p))]
  · show if chain none p = true then _ else _
    cases chain none p <;> simp
  · intro E hE
    simp [hE]
  · intro E hE
    simp [hE, hlen, h5]
theorem right_r0 (H : Hp) : Gives G 22 [.m (.nl 4)] H (.m (.b (right []))) H := by
  refine gives_pur rfl rfl rfl rfl rfl ?_
  simp [right, chain, c22_B0]
end Go.Mx.Tryd
