/- StatsStates: the counts of the states, and the density. -/
import Derived.Test.YtjkepihkilnjiaaDoorBox
import Derived.Test.YtjkepihkilnjiaaDoorRatio
import Derived.Test.YtjkepihkilnjiaaDoorWy
set_option maxRecDepth 100000
namespace Go.Mx.Tryd

def rows1 (l : List Int) : List (List V) := l.map fun x => [.m (.i .i64 x)]
theorem rows1_len (l : List Int) : (rows1 l).length = l.length := by simp [rows1]
theorem rows1_nth {l : List Int} {i : Nat} {x : Int} (h : l[i]? = some x) : nth (rows1 l) i = some [.m (.i .i64 x)] := by
  rw [nth_get]
  simp [rows1, h]
theorem rows1_set {l : List Int} {i : Nat} {x : Int} (h : i < l.length) : setEl (rows1 l) i [.m (.i .i64 x)] = some (rows1 (l.set i x)) := by
  rw [setEl_put _ _ _ (by rw [rows1_len]; exact h)]
  simp [rows1, List.map_set]
/-- One more cell of a state. -/
def upd (l : List Int) (n : Int) : List Int := l.set n.toNat (wr .i64 ((l[n.toNat]?).getD 0 + 1))
def updAll (l : List Int) : List Ce → List Int
  | [] => l
  | c :: r => updAll (upd l c.s) r
theorem upd_len (l : List Int) (n : Int) : (upd l n).length = l.length := by simp [upd]

theorem sta_s_loop (p : List Ce) (hl : (p.length : Int) ≤ 9223372036854775807) (n : Nat) (k : K) (P : List Int → Prop)
    (he : ∀ E B l b, l.length = n → getE E 6 = some (.sl 0 n 1 0 n true) → b ≤ n → At' G (.ex 0) ⟨E, [], ⟨B, [.cs 3 1 (rows1 l) b false]⟩⟩ k = P l) (x1 : V) :
    ∀ (r : List Ce) (i : Nat) (l : List Int) (B : List (Nat × List V)) (b : Nat), p.drop i = r → i ≤ p.length → l.length = n → b ≤ n → (∀ c, c ∈ r → 0 ≤ c.s ∧ c.s < n) →
      Run G c11_B0 ⟨[(0, .m (.sl (cells3 p))), (1, x1), (4, .m (.nl 4)), (5, .m (.i .i64 0)), (6, .sl 0 n 1 0 n true), (19, .m (.b false)), (23, .m (.b false)), (26, .m (.sl (cells3 p))), (27, .m (.i .i64 p.length)), (28, .m (.i .i64 i))], [], ⟨B, [.cs 3 1 (rows1 l) b false]⟩⟩ (.seq c11_L0 k) = P (updAll l r)
  | [], i, l, B, b, hd, hi, hn, hb, hs => by
    have := drop_nil hd hi
    subst this
    unfold c11_B0
    simp [he _ _ l b hn, hb, updAll]
  | c :: r, i, l, B, b, hd, hi, hn, hb, hs => by
    obtain ⟨hlt, hx, hd'⟩ := drop_cons hd
    have hnc := cells3_nth hx
    have hlen := cells3_len p
    have hw : wr .i64 ((i : Int) + 1) = ((i + 1 : Nat) : Int) := by rw [wr_i64 (by omega) (by omega)]; rfl
    obtain ⟨s0, s1⟩ := hs c (by simp)
    have hsn : c.s.toNat < l.length := by omega
    obtain ⟨y, hy⟩ : ∃ y, l[c.s.toNat]? = some y := ⟨l[c.s.toNat], List.getElem?_eq_getElem hsn⟩
    have hr1 := rows1_nth hy
    have hr2 := rows1_set (x := wr .i64 (y + 1)) hsn
    have hrl := rows1_len l
    have hu : upd l c.s = l.set c.s.toNat (wr .i64 (y + 1)) := by simp [upd, hy]
    rw [hn] at hrl
    have ih := sta_s_loop p hl n k P he x1 r (i + 1) (upd l c.s) (setB B 8 [.m (.i .i64 c.x), .m (.i .i64 c.y), .m (.i .i64 c.s)]) n hd' hlt (by rw [upd_len, hn]) (Nat.le_refl _) (fun d hd => hs d (by simp [hd]))
    unfold c11_B0
    simp [hlt, hnc, hlen, s0, s1, hb, hr1, hr2, hrl] at hw ⊢
    simp [hw, updAll]
    rw [hu] at ih ⊢
    exact Eq.to_iff (by simpa using ih)

theorem sta_r_loop (p : List Ce) (hl : (p.length : Int) ≤ 9223372036854775807) (n : Nat) (k : K) (P : List Int → Prop)
    (he : ∀ E l b, l.length = n → getE E 6 = some (.sl 0 n 1 0 n true) → b ≤ n → At' G (.ex 0) ⟨E, [], ⟨[], [.cs 3 1 (rows1 l) b false]⟩⟩ k = P l) (x1 : V) :
    ∀ (r : List Ce) (i : Nat) (l : List Int) (b : Nat), p.drop i = r → i ≤ p.length → l.length = n → b ≤ n → (∀ c, c ∈ r → 0 ≤ c.s ∧ c.s < n) →
      Run G c12_B0 ⟨[(0, .m (.sl (cells3 p))), (1, x1), (4, .m (.nl 4)), (5, .m (.i .i64 0)), (6, .sl 0 n 1 0 n true), (7, .m (.i .i64 i)), (18, .m (.b false)), (22, .m (.b false))], [], ⟨[], [.cs 3 1 (rows1 l) b false]⟩⟩ (.seq c12_L0 k) = P (updAll l r)
  | [], i, l, b, hd, hi, hn, hb, hs => by
    have := drop_nil hd hi
    subst this
    have hlen := cells3_len p
    unfold c12_B0
    simp [he _ l b hn, hb, updAll, hlen]
  | c :: r, i, l, b, hd, hi, hn, hb, hs => by
    obtain ⟨hlt, hx, hd'⟩ := drop_cons hd
    have hnc := cells3_nth hx
    have hlen := cells3_len p
    have hw : wr .i64 ((i : Int) + 1) = ((i + 1 : Nat) : Int) := by rw [wr_i64 (by omega) (by omega)]; rfl
    obtain ⟨s0, s1⟩ := hs c (by simp)
    have hsn : c.s.toNat < l.length := by omega
    obtain ⟨y, hy⟩ : ∃ y, l[c.s.toNat]? = some y := ⟨l[c.s.toNat], List.getElem?_eq_getElem hsn⟩
    have hr1 := rows1_nth hy
    have hr2 := rows1_set (x := wr .i64 (y + 1)) hsn
    have hrl := rows1_len l
    have hu : upd l c.s = l.set c.s.toNat (wr .i64 (y + 1)) := by simp [upd, hy]
    rw [hn] at hrl
    have ih := sta_r_loop p hl n k P he x1 r (i + 1) (upd l c.s) n hd' hlt (by rw [upd_len, hn]) (Nat.le_refl _) (fun d hd => hs d (by simp [hd]))
    unfold c12_B0
    simp [hlt, hnc, hlen, s0, s1, hb, hr1, hr2, hrl] at hw ⊢
    simp [hw, updAll]
    rw [hu] at ih ⊢
    exact Eq.to_iff (by simpa using ih)

def cellsI (l : List Int) : List (List I) := l.map fun x => [.i .i64 x]
theorem view_rows (l : List Int) (n b : Nat) (hn : l.length = n) (hb : b ≤ n) : view 20 [.cs 3 1 (rows1 l) b false] (.sl 0 n 1 0 n true) = some (.sl (cellsI l)) := by
  have h1 : elems [.cs 3 1 (rows1 l) b false] (.sl 0 n 1 0 n true) = some (rows1 l) := by
    show gd (Nat.ble b n && Nat.beq 1 1) (some (((rows1 l).drop 0).take n)) = _
    have : ((rows1 l).drop 0).take n = rows1 l := by
      rw [List.drop_zero, List.take_of_length_le]
      rw [rows1_len, hn]; omega
    rw [this]
    simp [hb]
  show (elems [.cs 3 1 (rows1 l) b false] (.sl 0 n 1 0 n true)).bind _ = _
  rw [h1]
  have h2 : ∀ (m : List Int), optMap (fun e => optMap (view 19 [.cs 3 1 (rows1 l) b false]) e) (rows1 m) = some (cellsI m) := by
    intro m
    induction m with
    | nil => rfl
    | cons x r ih =>
      show (optMap (view 19 [.cs 3 1 (rows1 l) b false]) [.m (.i .i64 x)]).bind (fun a => (optMap _ (rows1 r)).bind fun l => some (a :: l)) = _
      rw [ih]
      rfl
  simp only [Option.bind_some, h2]

theorem chain_good : ∀ (p : List Ce) (o : Option Ce), chain o p = true → ∀ c, c ∈ p → good c = true
  | [], _, _, c, hc => by simp at hc
  | a :: r, o, h, c, hc => by
    have h1 : good a = true ∧ chain (some a) r = true := by
      cases o with
      | none =>
        have : (good a && chain (some a) r) = true := h
        simpa using this
      | some b =>
        have : (good a && less b a && chain (some a) r) = true := h
        simp only [Bool.and_eq_true] at this
        exact ⟨this.1.1, this.2⟩
    rcases List.mem_cons.1 hc with rfl | hc
    · exact h1.1
    · exact chain_good r _ h1.2 c hc
theorem topF_ge : ∀ (p : List Ce) (m : Int), m ≤ topF m p ∧ ∀ c, c ∈ p → c.s ≤ topF m p
  | [], m => ⟨Int.le_refl _, fun c hc => by simp at hc⟩
  | a :: r, m => by
    obtain ⟨h1, h2⟩ := topF_ge r (max m a.s)
    refine ⟨by simp only [topF]; omega, fun c hc => ?_⟩
    rcases List.mem_cons.1 hc with rfl | hc
    · simp only [topF]; omega
    · exact h2 c hc

/-- What both texts of States give. -/
def staV (p : List Ce) (n : Int) : V :=
  if right p = false ∨ n < 2 ∨ 8 < n then .tu [.m (.nl 4), .m (.i .i64 2)]
  else if n ≤ topF 0 p then .tu [.m (.nl 4), .m (.i .i64 10)]
  else .tu [.m (.sl (cellsI (updAll (List.replicate n.toNat 0) p))), .m (.i .i64 0)]

theorem rep_rows (n : Nat) : List.replicate n [V.m (.i .i64 0)] = rows1 (List.replicate n 0) := by simp [rows1]

theorem states_s (p : List Ce) (hl : (p.length : Int) ≤ 9223372036854775807) (n : Int) (H : Hp) : Gives G 11 [.m (.sl (cells3 p)), .m (.i .i64 n)] H (staV p n) H := by
  refine gives_pur rfl rfl rfl rfl rfl ?_
  have g1 := right_s p hl []
  have g2 := top_s p hl []
  have hlen := cells3_len p
  unfold staV
  cases hr : right p with
  | false => rw [hr] at g1; simp [wc g1]
  | true =>
    rw [hr] at g1
    by_cases h1 : n < 2
    · simp [wc g1, h1]
    by_cases h2 : 8 < n
    · simp [wc g1, h1, h2]
    by_cases h3 : n ≤ topF 0 p
    · simp [wc g1, wc g2, h1, h2, h3]
    obtain ⟨m, rfl⟩ : ∃ m : Nat, n = m := ⟨n.toNat, by omega⟩
    have hm8 : m ≤ 8 := by omega
    have hm : m * 8 ≤ 281474976710656 := by omega
    have hm' : m ≤ 9223372036854775807 := by omega
    have hcs : ∀ c, c ∈ p → 0 ≤ c.s ∧ c.s < m := fun c hc => by
      have hg : chain none p = true := by
        unfold right at hr
        rw [Bool.and_eq_true] at hr
        exact hr.2
      have h4 := chain_good p none hg c hc
      have h5 := (topF_ge p 0).2 c hc
      simp only [good, Bool.and_eq_true, decide_eq_true_eq] at h4
      omega
    have key := fun k P he x1 => sta_s_loop p hl m k P he x1 p 0 (List.replicate m 0) [] 0 rfl (Nat.zero_le _) (by simp) (Nat.zero_le _) hcs
    have z : ((0 : Nat) : Int) = 0 := rfl
    simp only [z] at key
    simp [wc g1, wc g2, h1, h2, h3, hm, hm', hlen, rep_rows]
    rw [key _ (fun l => .tu [.m (.sl (cellsI l)), .m (.i .i64 0)] = V.tu [.m (.sl (cellsI (updAll (List.replicate m 0) p))), .m (.i .i64 0)])]
    intro E B l b hn hE hb
    simp [hE, view_rows l m b hn hb]
theorem states_s0 (n : Int) (H : Hp) : Gives G 11 [.m (.nl 4), .m (.i .i64 n)] H (staV [] n) H := by
  refine gives_pur rfl rfl rfl rfl rfl ?_
  have g1 := right_s0 []
  have g2 := top_s0 []
  have hr : right [] = true := rfl
  rw [hr] at g1
  unfold staV
  by_cases h1 : n < 2
  · simp [wc g1, h1]
  by_cases h2 : 8 < n
  · simp [wc g1, h1, h2]
  obtain ⟨m, rfl⟩ : ∃ m : Nat, n = m := ⟨n.toNat, by omega⟩
  have h3 : ¬ (m : Int) ≤ 0 := by omega
  have h3' : m ≠ 0 := by omega
  have hm : m * 8 ≤ 281474976710656 := by omega
  have hm' : m ≤ 9223372036854775807 := by omega
  have hv := view_rows (List.replicate m 0) m 0 (by simp) (Nat.zero_le _)
  simp [wc g1, wc g2, h1, h2, h3, h3', hm, hm', rep_rows, hr, topF, updAll, hv, c11_B0]
theorem states_r (p : List Ce) (hl : (p.length : Int) ≤ 9223372036854775807) (n : Int) (H : Hp) : Gives G 12 [.m (.sl (cells3 p)), .m (.i .i64 n)] H (staV p n) H := by
  refine gives_pur rfl rfl rfl rfl rfl ?_
  have g1 := right_r p hl []
  have g2 := top_r p hl []
  have hlen := cells3_len p
  unfold staV
  cases hr : right p with
  | false => rw [hr] at g1; simp [wc g1]
  | true =>
    rw [hr] at g1
    by_cases h1 : n < 2
    · simp [wc g1, h1]
    by_cases h2 : 8 < n
    · simp [wc g1, h1, h2]
    by_cases h3 : n ≤ topF 0 p
    · simp [wc g1, wc g2, h1, h2, h3]
    obtain ⟨m, rfl⟩ : ∃ m : Nat, n = m := ⟨n.toNat, by omega⟩
    have hm : m * 8 ≤ 281474976710656 := by omega
    have hm' : m ≤ 9223372036854775807 := by omega
    have hcs : ∀ c, c ∈ p → 0 ≤ c.s ∧ c.s < m := fun c hc => by
      have hg : chain none p = true := by
        unfold right at hr
        rw [Bool.and_eq_true] at hr
        exact hr.2
      have h4 := chain_good p none hg c hc
      have h5 := (topF_ge p 0).2 c hc
      simp only [good, Bool.and_eq_true, decide_eq_true_eq] at h4
      omega
    have key := fun k P he x1 => sta_r_loop p hl m k P he x1 p 0 (List.replicate m 0) 0 rfl (Nat.zero_le _) (by simp) (Nat.zero_le _) hcs
    have z : ((0 : Nat) : Int) = 0 := rfl
    simp only [z] at key
    simp [wc g1, wc g2, h1, h2, h3, hm, hm', hlen, rep_rows]
    rw [key _ (fun l => .tu [.m (.sl (cellsI l)), .m (.i .i64 0)] = V.tu [.m (.sl (cellsI (updAll (List.replicate m 0) p))), .m (.i .i64 0)])]
    intro E l b hn hE hb
    simp [hE, view_rows l m b hn hb]
theorem states_r0 (n : Int) (H : Hp) : Gives G 12 [.m (.nl 4), .m (.i .i64 n)] H (staV [] n) H := by
  refine gives_pur rfl rfl rfl rfl rfl ?_
  have g1 := right_r0 []
  have g2 := top_r0 []
  have hr : right [] = true := rfl
  rw [hr] at g1
  unfold staV
  by_cases h1 : n < 2
  · simp [wc g1, h1]
  by_cases h2 : 8 < n
  · simp [wc g1, h1, h2]
  obtain ⟨m, rfl⟩ : ∃ m : Nat, n = m := ⟨n.toNat, by omega⟩
  have h3 : ¬ (m : Int) ≤ 0 := by omega
  have h3' : m ≠ 0 := by omega
  have hm : m * 8 ≤ 281474976710656 := by omega
  have hm' : m ≤ 9223372036854775807 := by omega
  have hv := view_rows (List.replicate m 0) m 0 (by simp) (Nat.zero_le _)
  simp [wc g1, wc g2, h1, h2, h3, h3', hm, hm', rep_rows, hr, topF, updAll, hv, c12_B0]
end Go.Mx.Tryd
