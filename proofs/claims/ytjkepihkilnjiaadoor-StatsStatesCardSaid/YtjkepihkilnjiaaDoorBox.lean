/- Boxes: both texts of Right and In say the same. -/
import Derived.Test.YtjkepihkilnjiaaDoorPat
set_option maxRecDepth 100000
namespace Go.Mx.Tryd

def inC (x : Int) : Bool := decide (-1048576 ≤ x) && decide (x ≤ 1048576)
def rightBox (x y w h : Int) : Bool := decide (1 ≤ w) && decide (w < 2097154) && decide (1 ≤ h) && decide (h < 2097154) && inC x && inC y && inC (wr .i64 (wr .i64 (x + w) - 1)) && inC (wr .i64 (wr .i64 (y + h) - 1))
theorem in_s (x : Int) (H : Hp) : Gives G 51 [.m (.i .i64 x)] H (.m (.b (inC x))) H := by
  refine gives_pur rfl rfl rfl rfl rfl ?_
  unfold inC
  by_cases h1 : -1048576 ≤ x <;> simp [h1]
theorem valid_r (x y : Int) (H : Hp) : Gives G 52 [.m (.ag [.i .i64 x, .i .i64 y])] H (.m (.b (inC x && inC y))) H := by
  refine gives_pur rfl rfl rfl rfl rfl ?_
  unfold inC
  by_cases h1 : -1048576 ≤ x
  · by_cases h2 : x ≤ 1048576
    · by_cases h3 : -1048576 ≤ y
      · simp [h1, h2, h3]
      · simp [h1, h2, h3]
    · simp [h1, h2]
  · simp [h1]
theorem box_s (x y w h : Int) (H : Hp) : Gives G 31 [.m (.ag [.i .i64 x, .i .i64 y, .i .i64 w, .i .i64 h])] H (.m (.b (rightBox x y w h))) H := by
  refine gives_pur rfl rfl rfl rfl rfl ?_
  unfold rightBox
  by_cases h1 : 1 ≤ w
  case neg => simp [h1]
  by_cases h2 : w < 2097154
  case neg => simp [h1, h2]
  by_cases h3 : 1 ≤ h
  case neg => simp [h1, h2, h3]
  by_cases h4 : h < 2097154
  case neg => simp [h1, h2, h3, h4]
  have g1 := in_s x []
  have g2 := in_s y []
  have g3 := in_s (wr .i64 (wr .i64 (x + w) - 1)) []
  have g4 := in_s (wr .i64 (wr .i64 (y + h) - 1)) []
  cases h5 : inC x with
  | false => rw [h5] at g1; simp [h1, h2, h3, h4, wc g1]
  | true =>
    rw [h5] at g1
    cases h6 : inC y with
    | false => rw [h6] at g2; simp [h1, h2, h3, h4, wc g1, wc g2]
    | true =>
      rw [h6] at g2
      cases h7 : inC (wr .i64 (wr .i64 (x + w) - 1)) with
      | false => rw [h7] at g3; simp [h1, h2, h3, h4, wc g1, wc g2, wc g3]
      | true => rw [h7] at g3; simp [h1, h2, h3, h4, wc g1, wc g2, wc g3, wc g4]
theorem box_r (x y w h : Int) (H : Hp) : Gives G 33 [.m (.ag [.i .i64 x, .i .i64 y, .i .i64 w, .i .i64 h])] H (.m (.b (rightBox x y w h))) H := by
  refine gives_pur rfl rfl rfl rfl rfl ?_
  unfold rightBox
  by_cases h1 : w < 1
  · have k1 : ¬ 1 ≤ w := by omega
    simp [h1, k1]
  have k1 : 1 ≤ w := by omega
  by_cases h3 : h < 1
  · have k3 : ¬ 1 ≤ h := by omega
    simp [h1, h3, k1, k3]
  have k3 : 1 ≤ h := by omega
  by_cases h2 : 2097153 < w
  · have k2 : ¬ w < 2097154 := by omega
    simp [h1, h2, h3, k1, k2, k3]
  have k2 : w < 2097154 := by omega
  by_cases h4 : 2097153 < h
  · have k4 : ¬ h < 2097154 := by omega
    simp [h1, h2, h3, h4, k1, k2, k3, k4]
  have k4 : h < 2097154 := by omega
  have g1 := valid_r x y []
  have g2 := valid_r (wr .i64 (wr .i64 (x + w) - 1)) (wr .i64 (wr .i64 (y + h) - 1)) []
  cases h5 : (inC x && inC y) with
  | false =>
    rw [h5] at g1
    have : (decide (1 ≤ w) && decide (w < 2097154) && decide (1 ≤ h) && decide (h < 2097154) && inC x && inC y && inC (wr .i64 (wr .i64 (x + w) - 1)) && inC (wr .i64 (wr .i64 (y + h) - 1))) = false := by
      rw [Bool.and_eq_false_iff] at h5
      rcases h5 with h5 | h5 <;> simp [h5]
    rw [this]
    simp [h1, h2, h3, h4, wc g1]
  | true =>
    rw [h5] at g1
    have : (decide (1 ≤ w) && decide (w < 2097154) && decide (1 ≤ h) && decide (h < 2097154) && inC x && inC y && inC (wr .i64 (wr .i64 (x + w) - 1)) && inC (wr .i64 (wr .i64 (y + h) - 1))) = (inC (wr .i64 (wr .i64 (x + w) - 1)) && inC (wr .i64 (wr .i64 (y + h) - 1))) := by
      rw [Bool.and_eq_true] at h5
      simp [h5.1, h5.2, k1, k2, k3, k4]
    rw [this]
    generalize (inC (wr .i64 (wr .i64 (x + w) - 1)) && inC (wr .i64 (wr .i64 (y + h) - 1))) = z at g2 ⊢
    simp [h1, h2, h3, h4, wc g1, wc g2]
def inBox (x y w h a b : Int) : Bool := rightBox x y w h && decide (x ≤ a) && decide (a < wr .i64 (x + w)) && decide (y ≤ b) && decide (b < wr .i64 (y + h))
theorem inbox_s (x y w h a b : Int) (H : Hp) : Gives G 32 [.m (.ag [.i .i64 x, .i .i64 y, .i .i64 w, .i .i64 h]), .m (.ag [.i .i64 a, .i .i64 b])] H (.m (.b (inBox x y w h a b))) H := by
  refine gives_pur rfl rfl rfl rfl rfl ?_
  unfold inBox
  have g1 := box_s x y w h []
  cases h0 : rightBox x y w h with
  | false => rw [h0] at g1; simp [wc g1]
  | true =>
    rw [h0] at g1
    by_cases h1 : x ≤ a
    case neg => simp [wc g1, h1]
    by_cases h2 : a < wr .i64 (x + w)
    case neg => simp [wc g1, h1, h2]
    by_cases h3 : y ≤ b
    case neg => simp [wc g1, h1, h2, h3]
    simp [wc g1, h1, h2, h3]
theorem inbox_r (x y w h a b : Int) (H : Hp) : Gives G 34 [.m (.ag [.i .i64 x, .i .i64 y, .i .i64 w, .i .i64 h]), .m (.ag [.i .i64 a, .i .i64 b])] H (.m (.b (inBox x y w h a b))) H := by
  refine gives_pur rfl rfl rfl rfl rfl ?_
  unfold inBox
  have g1 := box_r x y w h []
  cases h0 : rightBox x y w h with
  | false => rw [h0] at g1; simp [wc g1]
  | true =>
    rw [h0] at g1
    by_cases h1 : x ≤ a
    case neg => simp [wc g1, h1]
    by_cases h2 : a < wr .i64 (x + w)
    case neg => simp [wc g1, h1, h2]
    by_cases h3 : y ≤ b
    case neg => simp [wc g1, h1, h2, h3]
    simp [wc g1, h1, h2, h3]

/-- The greatest state. -/
def topF (m : Int) : List Ce → Int
  | [] => m
  | c :: r => topF (max m c.s) r
theorem top_s_loop (p : List Ce) (hl : (p.length : Int) ≤ 9223372036854775807) (k : K) (P : Int → Prop)
    (he : ∀ E m, getE E 3 = some (.m (.i .i64 m)) → At' G (.ex 0) ⟨E, [], ⟨[], []⟩⟩ k = P m) :
    ∀ (r : List Ce) (i : Nat) (m : Int), p.drop i = r → i ≤ p.length →
      Run G c29_B0 ⟨[(0, .m (.sl (cells3 p))), (2, .m (.i .i64 0)), (3, .m (.i .i64 m)), (6, .m (.i .i64 p.length)), (7, .m (.i .i64 i))], [], ⟨[], []⟩⟩ (.seq c29_L0 k) = P (topF m r)
  | [], i, m, hd, hi => by
    have := drop_nil hd hi
    subst this
    unfold c29_B0
    simp [he _ m, topF]
  | c :: r, i, m, hd, hi => by
    obtain ⟨hlt, hx, hd'⟩ := drop_cons hd
    have hn := cells3_nth hx
    have hlen := cells3_len p
    have hw : wr .i64 ((i : Int) + 1) = ((i + 1 : Nat) : Int) := by rw [wr_i64 (by omega) (by omega)]; rfl
    have ih := top_s_loop p hl k P he r (i + 1) (max m c.s) hd' hlt
    unfold c29_B0
    simp [hlt, hn, hlen, topF] at hw ⊢
    simp [hw]
    exact Eq.to_iff (by simpa using ih)
theorem top_s (p : List Ce) (hl : (p.length : Int) ≤ 9223372036854775807) (H : Hp) : Gives G 29 [.m (.sl (cells3 p))] H (.m (.i .i64 (topF 0 p))) H := by
  refine gives_pur rfl rfl rfl rfl rfl ?_
  have hlen := cells3_len p
  have key := fun k P he => top_s_loop p hl k P he p 0 0 rfl (Nat.zero_le _)
  have z : ((0 : Nat) : Int) = 0 := rfl
  simp only [z] at key
  simp [hlen]
  rw [key _ (fun m => m = topF 0 p)]
  intro E m hE
  simp [hE]
theorem top_s0 (H : Hp) : Gives G 29 [.m (.nl 4)] H (.m (.i .i64 0)) H := by
  refine gives_pur rfl rfl rfl rfl rfl ?_
  simp [c29_B0]
theorem top_r_loop (p : List Ce) (hl : (p.length : Int) ≤ 9223372036854775807) (k : K) (P : Int → Prop)
    (he : ∀ E m, getE E 3 = some (.m (.i .i64 m)) → At' G (.ex 0) ⟨E, [], ⟨[], []⟩⟩ k = P m) :
    ∀ (r : List Ce) (i : Nat) (m : Int), p.drop i = r → i ≤ p.length →
      Run G c30_B0 ⟨[(0, .m (.sl (cells3 p))), (2, .m (.i .i64 0)), (3, .m (.i .i64 m)), (4, .m (.i .i64 i))], [], ⟨[], []⟩⟩ (.seq c30_L0 k) = P (topF m r)
  | [], i, m, hd, hi => by
    have := drop_nil hd hi
    subst this
    have hlen := cells3_len p
    unfold c30_B0
    simp [he _ m, topF, hlen]
  | c :: r, i, m, hd, hi => by
    obtain ⟨hlt, hx, hd'⟩ := drop_cons hd
    have hn := cells3_nth hx
    have hlen := cells3_len p
    have hw : wr .i64 ((i : Int) + 1) = ((i + 1 : Nat) : Int) := by rw [wr_i64 (by omega) (by omega)]; rfl
    have ih := top_r_loop p hl k P he r (i + 1) (max m c.s) hd' hlt
    unfold c30_B0
    simp [hlt, hn, hlen, topF] at hw ⊢
    simp [hw]
    exact Eq.to_iff (by simpa using ih)
theorem top_r (p : List Ce) (hl : (p.length : Int) ≤ 9223372036854775807) (H : Hp) : Gives G 30 [.m (.sl (cells3 p))] H (.m (.i .i64 (topF 0 p))) H := by
  refine gives_pur rfl rfl rfl rfl rfl ?_
  have key := fun k P he => top_r_loop p hl k P he p 0 0 rfl (Nat.zero_le _)
  have z : ((0 : Nat) : Int) = 0 := rfl
  simp only [z] at key
  simp
  rw [key _ (fun m => m = topF 0 p)]
  intro E m hE
  simp [hE]
theorem top_r0 (H : Hp) : Gives G 30 [.m (.nl 4)] H (.m (.i .i64 0)) H := by
  refine gives_pur rfl rfl rfl rfl rfl ?_
  simp [c30_B0]
end Go.Mx.Tryd
