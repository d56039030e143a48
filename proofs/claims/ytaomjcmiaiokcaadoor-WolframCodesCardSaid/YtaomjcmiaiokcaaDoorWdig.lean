/- WolframDigits: the digits of a code, in both texts. -/
import Derived.Test.YtaomjcmiaiokcaaDoorLoops
import Derived.Test.YtaomjcmiaiokcaaDoorIdxF
import Derived.Test.YtaomjcmiaiokcaaDoorWz
set_option maxRecDepth 100000
namespace Go.Mx.Tryd

/-- The first k digits of a number to base s, and what is left. -/
def dig (s : Nat) : Nat → Nat → List Int
  | 0, _ => []
  | k + 1, m => ((m % s : Nat) : Int) :: dig s k (m / s)
def rst (s : Nat) : Nat → Nat → Nat
  | 0, m => m
  | k + 1, m => rst s k (m / s)
theorem dig_len (s : Nat) : ∀ (k m : Nat), (dig s k m).length = k
  | 0, _ => rfl
  | k + 1, m => by simp [dig, dig_len s k]
theorem rst_le (s : Nat) : ∀ (k m : Nat), rst s k m ≤ m
  | 0, _ => Nat.le_refl _
  | k + 1, m => Nat.le_trans (rst_le s k (m / s)) (Nat.div_le_self _ _)

theorem dig_s_loop (s T : Nat) (hs : 2 ≤ s) (hT : T ≤ 100) (k : K) (P : List Int → Nat → Prop)
    (he : ∀ E l m, l.length = T → getE E 1 = some (.m (.i .i64 ((m : Nat) : Int))) → getE E 6 = some (.sl 0 T 1 0 T false) → At' G (.ex 0) ⟨E, [], ⟨[], [.cs 3 1 (rowsI l) 0 false]⟩⟩ k = P l m) :
    ∀ (r j : Nat) (m : Nat) (acc : List Int), acc.length = j → j + r = T → m ≤ 9223372036854775807 →
      Run G c20_B0 ⟨[(0, .m (.i .i64 s)), (1, .m (.i .i64 m)), (4, .m (.nl 4)), (5, .m (.i .i64 0)), (6, .sl 0 j 1 0 j false), (12, .m (.b false)), (14, .m (.b false)), (16, .m (.i .i64 T)), (17, .m (.i .i64 j))], [], ⟨[], [.cs 3 1 (rowsI acc) 0 false]⟩⟩ (.seq c20_L0 k) = P (acc ++ dig s r m) (rst s r m)
  | 0, j, m, acc, hj, hT', hm => by
    have : j = T := by omega
    subst this
    unfold c20_B0
    simp [he _ acc m hj, dig, rst]
  | r + 1, j, m, acc, hj, hT', hm => by
    have hlt : j < T := by omega
    have hw : wr .i64 ((j : Int) + 1) = (j : Int) + 1 := wr_i64 (by omega) (by omega)
    have h1 : (m : Int).tmod (s : Int) = ((m % s : Nat) : Int) := (Int.ofNat_tmod m s).symm
    have h2 : (m : Int).tdiv (s : Int) = ((m / s : Nat) : Int) := (Int.ofNat_tdiv m s).symm
    have h3 : m / s ≤ m := Nat.div_le_self _ _
    have h6 : (0 : Int) ≤ ((m / s : Nat) : Int) := Int.natCast_nonneg _
    have h7 : ((m / s : Nat) : Int) ≤ (m : Int) := Int.ofNat_le.2 h3
    have h4 : wr .i64 ((m / s : Nat) : Int) = ((m / s : Nat) : Int) := wr_i64 (by omega) (by omega)
    have h5 : (s : Int) ≠ 0 := by omega
    have h5' : s ≠ 0 := by omega
    have happ := appX_int [] 3 8 j acc ((m % s : Nat) : Int) hj (by omega)
    have ih := dig_s_loop s T hs hT k P he r (j + 1) (m / s) (acc ++ [((m % s : Nat) : Int)]) (by simp [hj]) (by omega) (by omega)
    rw [List.append_assoc] at ih
    simp only [dig, rst]
    have e : [((m % s : Nat) : Int)] ++ dig s r (m / s) = ((m % s : Nat) : Int) :: dig s r (m / s) := rfl
    rw [e] at ih
    rw [← ih]
    generalize hR : Run G c20_B0 ⟨[(0, .m (.i .i64 s)), (1, .m (.i .i64 ((m / s : Nat) : Int))), (4, .m (.nl 4)), (5, .m (.i .i64 0)), (6, .sl 0 (j + 1) 1 0 (j + 1) false), (12, .m (.b false)), (14, .m (.b false)), (16, .m (.i .i64 T)), (17, .m (.i .i64 ((j + 1 : Nat) : Int)))], [], ⟨[], [.cs 3 1 (rowsI (acc ++ [((m % s : Nat) : Int)])) 0 false]⟩⟩ (.seq c20_L0 k) = R
    unfold c20_B0
    simp [hlt, h1, h2, h4, h5, h5', hw, happ, -Int.natCast_ediv, -Int.natCast_emod]
    exact Eq.to_iff (by simpa using hR)

theorem dig_s_first (s r m : Nat) (hs : 2 ≤ s) (hT : r + 1 ≤ 100) (hm : m ≤ 9223372036854775807) (k : K) (P : List Int → Nat → Prop)
    (he : ∀ E l m, l.length = r + 1 → getE E 1 = some (.m (.i .i64 ((m : Nat) : Int))) → getE E 6 = some (.sl 0 (r + 1) 1 0 (r + 1) false) → At' G (.ex 0) ⟨E, [], ⟨[], [.cs 3 1 (rowsI l) 0 false]⟩⟩ k = P l m) :
    Run G c20_B0 ⟨[(0, .m (.i .i64 s)), (1, .m (.i .i64 m)), (4, .m (.nl 4)), (5, .m (.i .i64 0)), (6, .m (.nl 4)), (12, .m (.b false)), (14, .m (.b false)), (16, .m (.i .i64 ((r + 1 : Nat) : Int))), (17, .m (.i .i64 0))], [], ⟨[], []⟩⟩ (.seq c20_L0 k) = P (dig s (r + 1) m) (rst s (r + 1) m) := by
  have h1 : (m : Int).tmod (s : Int) = ((m % s : Nat) : Int) := (Int.ofNat_tmod m s).symm
  have h2 : (m : Int).tdiv (s : Int) = ((m / s : Nat) : Int) := (Int.ofNat_tdiv m s).symm
  have h3 : m / s ≤ m := Nat.div_le_self _ _
  have h6 : (0 : Int) ≤ ((m / s : Nat) : Int) := Int.natCast_nonneg _
  have h7 : ((m / s : Nat) : Int) ≤ (m : Int) := Int.ofNat_le.2 h3
  have h4 : wr .i64 ((m / s : Nat) : Int) = ((m / s : Nat) : Int) := wr_i64 (by omega) (by omega)
  have h5 : (s : Int) ≠ 0 := by omega
  have h5' : s ≠ 0 := by omega
  have hpos : (0 : Int) < (r : Int) + 1 := by omega
  have hw1 : wr .i64 1 = 1 := by rfl
  have ih := dig_s_loop s (r + 1) hs hT k P he r 1 (m / s) [((m % s : Nat) : Int)] rfl (by omega) (by omega)
  have e : [((m % s : Nat) : Int)] ++ dig s r (m / s) = dig s (r + 1) m := rfl
  have e2 : rst s r (m / s) = rst s (r + 1) m := rfl
  rw [e, e2] at ih
  generalize P (dig s (r + 1) m) (rst s (r + 1) m) = R at ih ⊢
  simp only [rowsI, List.map_cons, List.map_nil] at ih
  unfold c20_B0
  simp [h1, h2, h4, h5, h5', hw1, hpos, -Int.natCast_ediv, -Int.natCast_emod]
  exact Eq.to_iff (by simpa using ih)

theorem dig_r_loop (s T : Nat) (hs : 2 ≤ s) (hs8 : s ≤ 8) (hT : T = 3 * s - 2) (k : K) (P : List Int → Nat → Prop)
    (he : ∀ E l m, l.length = T → getE E 1 = some (.m (.i .i64 ((m : Nat) : Int))) → getE E 6 = some (.sl 0 T 1 0 T false) → At' G (.ex 0) ⟨E, [], ⟨[], [.cs 3 1 (rowsI l) 0 false]⟩⟩ k = P l m) :
    ∀ (r j : Nat) (m : Nat) (acc : List Int), acc.length = j → j + r = T → m ≤ 9223372036854775807 →
      Run G c21_B0 ⟨[(0, .m (.i .i64 s)), (1, .m (.i .i64 m)), (4, .m (.nl 4)), (5, .m (.i .i64 0)), (6, .sl 0 j 1 0 j false), (7, .m (.i .i64 j)), (13, .m (.b false)), (15, .m (.b false))], [], ⟨[], [.cs 3 1 (rowsI acc) 0 false]⟩⟩ (.seq c21_L0 k) = P (acc ++ dig s r m) (rst s r m)
  | 0, j, m, acc, hj, hT', hm => by
    have : j = T := by omega
    subst this
    have w1 : wr .i64 ((s : Int) - 1) = (s : Int) - 1 := wr_i64 (by omega) (by omega)
    have w2 : wr .i64 (3 * ((s : Int) - 1)) = 3 * ((s : Int) - 1) := wr_i64 (by omega) (by omega)
    have w3 : ¬ ((j : Int) ≤ 3 * ((s : Int) - 1)) := by omega
    unfold c21_B0
    simp [he _ acc m hj, dig, rst, w1, w2, w3]
  | r + 1, j, m, acc, hj, hT', hm => by
    have w1 : wr .i64 ((s : Int) - 1) = (s : Int) - 1 := wr_i64 (by omega) (by omega)
    have w2 : wr .i64 (3 * ((s : Int) - 1)) = 3 * ((s : Int) - 1) := wr_i64 (by omega) (by omega)
    have hlt : (j : Int) ≤ 3 * ((s : Int) - 1) := by omega
    have hw : wr .i64 ((j : Int) + 1) = (j : Int) + 1 := wr_i64 (by omega) (by omega)
    have h1 : (m : Int).tmod (s : Int) = ((m % s : Nat) : Int) := (Int.ofNat_tmod m s).symm
    have h2 : (m : Int).tdiv (s : Int) = ((m / s : Nat) : Int) := (Int.ofNat_tdiv m s).symm
    have h3 : m / s ≤ m := Nat.div_le_self _ _
    have h6 : (0 : Int) ≤ ((m / s : Nat) : Int) := Int.natCast_nonneg _
    have h7 : ((m / s : Nat) : Int) ≤ (m : Int) := Int.ofNat_le.2 h3
    have h4 : wr .i64 ((m / s : Nat) : Int) = ((m / s : Nat) : Int) := wr_i64 (by omega) (by omega)
    have h5 : (s : Int) ≠ 0 := by omega
    have h5' : s ≠ 0 := by omega
    have happ := appX_int [] 3 8 j acc ((m % s : Nat) : Int) hj (by omega)
    have ih := dig_r_loop s T hs hs8 hT k P he r (j + 1) (m / s) (acc ++ [((m % s : Nat) : Int)]) (by simp [hj]) (by omega) (by omega)
    rw [List.append_assoc] at ih
    simp only [dig, rst]
    have e : [((m % s : Nat) : Int)] ++ dig s r (m / s) = ((m % s : Nat) : Int) :: dig s r (m / s) := rfl
    rw [e] at ih
    generalize P (acc ++ ((m % s : Nat) : Int) :: dig s r (m / s)) (rst s r (m / s)) = R at ih ⊢
    unfold c21_B0
    simp [hlt, h1, h2, h4, h5, h5', hw, happ, w1, w2, -Int.natCast_ediv, -Int.natCast_emod]
    exact Eq.to_iff (by simpa using ih)

theorem dig_r_first (s r m : Nat) (hs : 2 ≤ s) (hs8 : s ≤ 8) (hT : r + 1 = 3 * s - 2) (hm : m ≤ 9223372036854775807) (k : K) (P : List Int → Nat → Prop)
    (he : ∀ E l m, l.length = r + 1 → getE E 1 = some (.m (.i .i64 ((m : Nat) : Int))) → getE E 6 = some (.sl 0 (r + 1) 1 0 (r + 1) false) → At' G (.ex 0) ⟨E, [], ⟨[], [.cs 3 1 (rowsI l) 0 false]⟩⟩ k = P l m) :
    Run G c21_B0 ⟨[(0, .m (.i .i64 s)), (1, .m (.i .i64 m)), (4, .m (.nl 4)), (5, .m (.i .i64 0)), (6, .m (.nl 4)), (7, .m (.i .i64 0)), (13, .m (.b false)), (15, .m (.b false))], [], ⟨[], []⟩⟩ (.seq c21_L0 k) = P (dig s (r + 1) m) (rst s (r + 1) m) := by
  have w1 : wr .i64 ((s : Int) - 1) = (s : Int) - 1 := wr_i64 (by omega) (by omega)
  have w2 : wr .i64 (3 * ((s : Int) - 1)) = 3 * ((s : Int) - 1) := wr_i64 (by omega) (by omega)
  have hlt : (0 : Int) ≤ 3 * ((s : Int) - 1) := by omega
  have h1 : (m : Int).tmod (s : Int) = ((m % s : Nat) : Int) := (Int.ofNat_tmod m s).symm
  have h2 : (m : Int).tdiv (s : Int) = ((m / s : Nat) : Int) := (Int.ofNat_tdiv m s).symm
  have h3 : m / s ≤ m := Nat.div_le_self _ _
  have h6 : (0 : Int) ≤ ((m / s : Nat) : Int) := Int.natCast_nonneg _
  have h7 : ((m / s : Nat) : Int) ≤ (m : Int) := Int.ofNat_le.2 h3
  have h4 : wr .i64 ((m / s : Nat) : Int) = ((m / s : Nat) : Int) := wr_i64 (by omega) (by omega)
  have h5 : (s : Int) ≠ 0 := by omega
  have h5' : s ≠ 0 := by omega
  have hw1 : wr .i64 1 = 1 := by rfl
  have ih := dig_r_loop s (r + 1) hs hs8 hT k P he r 1 (m / s) [((m % s : Nat) : Int)] rfl (by omega) (by omega)
  have e : [((m % s : Nat) : Int)] ++ dig s r (m / s) = dig s (r + 1) m := rfl
  have e2 : rst s r (m / s) = rst s (r + 1) m := rfl
  rw [e, e2] at ih
  generalize P (dig s (r + 1) m) (rst s (r + 1) m) = R at ih ⊢
  simp only [rowsI, List.map_cons, List.map_nil] at ih
  unfold c21_B0
  simp [h1, h2, h4, h5, h5', hw1, hlt, w1, w2, -Int.natCast_ediv, -Int.natCast_emod]
  exact Eq.to_iff (by simpa using ih)

theorem sums_s (s : Int) (H : Hp) : Gives G 33 [.m (.i .i64 s)] H (.m (.i .i64 (wr .i64 (wr .i64 (3 * s) - 2)))) H := by
  refine gives_pur rfl rfl rfl rfl rfl ?_
  simp

/-- What both texts of Digits give. -/
def digV (s n : Int) : V :=
  if s < 2 ∨ 8 < s then .tu [.m (.nl 4), .m (.i .i64 2)]
  else if n < 0 then .tu [.m (.nl 4), .m (.i .i64 5)]
  else if 0 < rst s.toNat (3 * s.toNat - 2) n.toNat then .tu [.m (.nl 4), .m (.i .i64 5)]
  else .tu [.m (.sl (celI (dig s.toNat (3 * s.toNat - 2) n.toNat))), .m (.i .i64 0)]

theorem digits_s (s n : Int) (hn : n ≤ 9223372036854775807) (H : Hp) : Gives G 20 [.m (.i .i64 s), .m (.i .i64 n)] H (digV s n) H := by
  refine gives_pur rfl rfl rfl rfl rfl ?_
  unfold digV
  by_cases h1 : s < 2
  · simp [h1]
  by_cases h2 : 8 < s
  · simp [h1, h2]
  by_cases h3 : n < 0
  · simp [h1, h2, h3]
  obtain ⟨t, rfl⟩ : ∃ t : Nat, s = t := ⟨s.toNat, by omega⟩
  obtain ⟨m, rfl⟩ : ∃ m : Nat, n = m := ⟨n.toNat, by omega⟩
  obtain ⟨r, hr⟩ : ∃ r, 3 * t - 2 = r + 1 := ⟨3 * t - 3, by omega⟩
  have hsum : wr .i64 (wr .i64 (3 * (t : Int)) - 2) = ((r + 1 : Nat) : Int) := by
    rw [wr_i64 (x := 3 * (t : Int)) (by omega) (by omega), wr_i64 (by omega) (by omega)]
    omega
  have gs := sums_s t []
  rw [hsum] at gs
  have key := fun k P he => dig_s_first t r m (by omega) (by omega) (by omega) k P he
  simp only [Int.natCast_add, Int.natCast_one] at key gs
  have h3' : ¬ (m : Int) < 0 := by omega
  simp only [Int.toNat_natCast, hr]
  generalize hv : (if 0 < rst t (r + 1) m then V.tu [.m (.nl 4), .m (.i .i64 5)] else .tu [.m (.sl (celI (dig t (r + 1) m))), .m (.i .i64 0)]) = v
  simp [h1, h2, h3', wc gs]
  rw [key _ (fun l m => (if 0 < m then V.tu [.m (.nl 4), .m (.i .i64 5)] else .tu [.m (.sl (celI l)), .m (.i .i64 0)]) = v)]
  · exact hv
  · intro E l q hl hE1 hE6
    have hvw := view_int 3 l (r + 1) false hl
    by_cases hq : 0 < q
    · have hq' : (0 : Int) < q := by omega
      simp [hE1, hE6, hq, hq']
    · have hq' : ¬ (0 : Int) < q := by omega
      simp [hE1, hE6, hq, hq', hvw]
theorem digits_r (s n : Int) (hn : n ≤ 9223372036854775807) (H : Hp) : Gives G 21 [.m (.i .i64 s), .m (.i .i64 n)] H (digV s n) H := by
  refine gives_pur rfl rfl rfl rfl rfl ?_
  unfold digV
  by_cases h1 : s < 2
  · simp [h1]
  by_cases h2 : 8 < s
  · simp [h1, h2]
  by_cases h3 : n < 0
  · simp [h1, h2, h3]
  obtain ⟨t, rfl⟩ : ∃ t : Nat, s = t := ⟨s.toNat, by omega⟩
  obtain ⟨m, rfl⟩ : ∃ m : Nat, n = m := ⟨n.toNat, by omega⟩
  obtain ⟨r, hr⟩ : ∃ r, 3 * t - 2 = r + 1 := ⟨3 * t - 3, by omega⟩
  have key := fun k P he => dig_r_first t r m (by omega) (by omega) (by omega) (by omega) k P he
  skip
  have h3' : ¬ (m : Int) < 0 := by omega
  simp only [Int.toNat_natCast, hr]
  generalize hv : (if 0 < rst t (r + 1) m then V.tu [.m (.nl 4), .m (.i .i64 5)] else .tu [.m (.sl (celI (dig t (r + 1) m))), .m (.i .i64 0)]) = v
  simp [h1, h2, h3']
  rw [key _ (fun l m => (if 0 < m then V.tu [.m (.nl 4), .m (.i .i64 5)] else .tu [.m (.sl (celI l)), .m (.i .i64 0)]) = v)]
  · exact hv
  · intro E l q hl hE1 hE6
    have hvw := view_int 3 l (r + 1) false hl
    by_cases hq : 0 < q
    · have hq' : (0 : Int) < q := by omega
      simp [hE1, hE6, hq, hq']
    · have hq' : ¬ (0 : Int) < q := by omega
      simp [hE1, hE6, hq, hq', hvw]

theorem same_loop (l : List Int) (hl : (l.length : Int) ≤ 9223372036854775807) (k : K) (P : Prop) (he : ∀ E, At' G (.ex 0) ⟨E, [], ⟨[], []⟩⟩ k = P) :
    ∀ (r : List Int) (i : Nat), l.drop i = r → i ≤ l.length →
      Run G c22_B0 ⟨[(0, .m (.sl (celI l))), (1, .m (.sl (celI l))), (5, .m (.i .i64 i)), (10, .m (.b false))], [], ⟨[], []⟩⟩ (.seq c22_L0 k) = P
  | [], i, hd, hi => by
    have : i = l.length := by
      have := congrArg List.length hd
      simp at this
      omega
    subst this
    have hlen := celI_len l
    unfold c22_B0
    simp [he, hlen]
  | x :: r, i, hd, hi => by
    have hlt : i < l.length := by
      have := congrArg List.length hd
      simp at this
      omega
    have hx : l[i]? = some x := by
      have := congrArg (fun t => t[0]?) hd
      simpa using this
    have hn := celI_nth hx
    have hlen := celI_len l
    have ih := same_loop l hl k P he r (i + 1) (by rw [← List.drop_drop, hd]; rfl) hlt
    have hw : wr .i64 ((i : Int) + 1) = ((i + 1 : Nat) : Int) := by rw [wr_i64 (by omega) (by omega)]; rfl
    unfold c22_B0
    simp [hlt, hn, hlen] at hw ⊢
    simp [hw]
    exact Eq.to_iff (by simpa using ih)
theorem same_eq (l : List Int) (hl : (l.length : Int) ≤ 9223372036854775807) (H : Hp) : Gives G 22 [.m (.sl (celI l)), .m (.sl (celI l))] H (.m (.b true)) H := by
  refine gives_pur rfl rfl rfl rfl rfl ?_
  have key := fun k P he => same_loop l hl k P he l 0 rfl (Nat.zero_le _)
  have z : ((0 : Nat) : Int) = 0 := rfl
  simp only [z] at key
  simp
  rw [key _ True]
  · trivial
  · intro E
    simp
theorem same_nil (H : Hp) : Gives G 22 [.m (.nl 4), .m (.nl 4)] H (.m (.b true)) H := by
  refine gives_pur rfl rfl rfl rfl rfl ?_
  simp [c22_B0]

/-- From the digits back to the number: none where it is no int. -/
def hor (s : Int) : List Int → Int → Option Int
  | [], n => some n
  | d :: r, n => if (9223372036854775807 - d) / s < n then none else hor s r (n * s + d)
theorem hor_append (s : Int) : ∀ (a b : List Int) (n : Int), hor s (a ++ b) n = (hor s a n).bind (hor s b)
  | [], b, n => rfl
  | d :: r, b, n => by
    simp only [List.cons_append, hor]
    split
    · rfl
    · exact hor_append s r b _
theorem hor_dig (s : Nat) (hs : 2 ≤ s) : ∀ (k m : Nat), m ≤ 9223372036854775807 → hor s (dig s k m).reverse (rst s k m : Nat) = some (m : Int)
  | 0, m, _ => rfl
  | k + 1, m, hm => by
    have h3 : m / s ≤ m := Nat.div_le_self _ _
    have e1 : (dig s (k + 1) m).reverse = (dig s k (m / s)).reverse ++ [((m % s : Nat) : Int)] := by simp [dig]
    have e2 : rst s (k + 1) m = rst s k (m / s) := rfl
    rw [e1, e2, hor_append, hor_dig s hs k (m / s) (by omega)]
    have h4 : s * (m / s) + m % s = m := Nat.div_add_mod m s
    have h5 : ((m / s : Nat) : Int) * (s : Int) + ((m % s : Nat) : Int) = (m : Int) := by
      rw [← Int.natCast_mul, ← Int.natCast_add, Nat.mul_comm, h4]
    have h6 : ¬ (9223372036854775807 - ((m % s : Nat) : Int)) / (s : Int) < ((m / s : Nat) : Int) := by
      intro h
      have h7 := Int.ediv_lt_iff_lt_mul (show (0 : Int) < s by omega) |>.1 h
      omega
    simp only [Option.bind_some, hor, if_neg h6, h5]

def badD (s x : Int) : Bool := decide (x < 0) || decide (s ≤ x)
theorem clo34 (s x : Int) (H : Hp) : Gives G 34 [.m (.i .i64 x), .m (.pt [.i .i64 s])] H (.m (.b (badD s x))) H := by
  refine gives_pur rfl rfl rfl rfl rfl ?_
  unfold badD
  by_cases h : x < 0
  · simp [h]
  · simp [h]

theorem code_loop (s : Nat) (hs : 2 ≤ s) (hs8 : s ≤ 8) (l : List Int) (hl : l.length ≤ 100) (hg : ∀ d, d ∈ l → 0 ≤ d ∧ d < s) (k : K) (Pf : Prop) (P : Int → Prop)
    (hr : ∀ E, getE E 4 = some (.m (.i .i64 0)) → getE E 5 = some (.m (.i .i64 5)) → At' G .ret ⟨E, [], ⟨[], [.cs 3 1 [[.m (.i .i64 s)]] 0 false]⟩⟩ k = Pf)
    (he : ∀ E n, getE E 6 = some (.m (.i .i64 n)) → At' G (.ex 0) ⟨E, [], ⟨[], [.cs 3 1 [[.m (.i .i64 s)]] 0 false]⟩⟩ k = P n) :
    ∀ (r : List Int) (i : Nat) (n : Int), l.reverse.drop i = r → i ≤ l.length → 0 ≤ n → n ≤ 9223372036854775807 →
      Run G c23_B0 ⟨[(0, .m (.i .i64 s)), (1, .m (.sl (celI l))), (2, .pt 0 1 0 0), (6, .m (.i .i64 n)), (21, .m (.b false)), (24, .m (.b false)), (26, .m (.i .i64 l.length)), (27, .m (.i .i64 i))], [], ⟨[], [.cs 3 1 [[.m (.i .i64 s)]] 0 false]⟩⟩ (.seq c23_L0 k) =
        match hor s r n with
        | none => Pf
        | some q => P q
  | [], i, n, hd, hi, h0, h1 => by
    have : i = l.length := by
      have := congrArg List.length hd
      simp at this
      omega
    subst this
    unfold c23_B0
    simp [he _ n, hor]
  | d :: r, i, n, hd, hi, h0, h1 => by
    have hlt : i < l.length := by
      have := congrArg List.length hd
      simp at this
      omega
    have hx : l[l.length - 1 - i]? = some d := by
      have h2 : l.reverse[i]? = some d := by
        have := congrArg (fun t => t[0]?) hd
        simpa using this
      rw [List.getElem?_reverse hlt] at h2
      exact h2
    obtain ⟨d0, d1⟩ := hg d (List.mem_of_getElem? hx)
    have hn := celI_nth hx
    have hlen := celI_len l
    have w1 : wr .i64 ((l.length : Int) - 1) = (l.length : Int) - 1 := wr_i64 (by omega) (by omega)
    have w2 : wr .i64 ((l.length : Int) - 1 - i) = ((l.length - 1 - i : Nat) : Int) := by rw [wr_i64 (by omega) (by omega)]; omega
    have w3 : wr .i64 (9223372036854775807 - d) = 9223372036854775807 - d := wr_i64 (by omega) (by omega)
    have q1 : (9223372036854775807 - d).tdiv (s : Int) = (9223372036854775807 - d) / (s : Int) := Int.tdiv_eq_ediv_of_nonneg (by omega)
    have q2 : 0 ≤ (9223372036854775807 - d) / (s : Int) := Int.ediv_nonneg (by omega) (by omega)
    have q3 : (9223372036854775807 - d) / (s : Int) ≤ 9223372036854775807 - d := Int.ediv_le_self _ (by omega)
    have w4 : wr .i64 ((9223372036854775807 - d) / (s : Int)) = (9223372036854775807 - d) / (s : Int) := wr_i64 (by omega) (by omega)
    have w5 : wr .i64 ((i : Int) + 1) = ((i + 1 : Nat) : Int) := by rw [wr_i64 (by omega) (by omega)]; rfl
    have h5 : (s : Int) ≠ 0 := by omega
    have h5' : s ≠ 0 := by omega
    have hj : l.length - 1 - i < l.length := by omega
    by_cases hq : (9223372036854775807 - d) / (s : Int) < n
    · simp only [hor, if_pos hq]
      unfold c23_B0
      simp [hlt, hn, hlen, w1, w2, w3, w4, q1, h5, h5', hj, hq, hr]
    · have hm : n * s ≤ 9223372036854775807 - d := by
        have : n ≤ (9223372036854775807 - d) / (s : Int) := by omega
        exact (Int.le_ediv_iff_mul_le (by omega)).1 this
      have hm0 : 0 ≤ n * s := Int.mul_nonneg h0 (by omega)
      have w6 : wr .i64 (n * s) = n * s := wr_i64 (by omega) (by omega)
      have w7 : wr .i64 (n * s + d) = n * s + d := wr_i64 (by omega) (by omega)
      have ih := code_loop s hs hs8 l hl hg k Pf P hr he r (i + 1) (n * s + d) (by rw [← List.drop_drop, hd]; rfl) hlt (by omega) (by omega)
      simp only [hor, if_neg hq]
      generalize (match hor s r (n * s + d) with | none => Pf | some q => P q) = R at ih ⊢
      unfold c23_B0
      simp [hlt, hn, hlen, w1, w2, w3, w4, q1, h5, h5', hj, hq, w6, w7] at w5 ⊢
      simp [w5]
      exact Eq.to_iff (by simpa using ih)
end Go.Mx.Tryd
