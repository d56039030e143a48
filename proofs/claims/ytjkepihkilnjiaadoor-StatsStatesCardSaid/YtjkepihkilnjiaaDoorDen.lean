/- StatsStates: the density, and the law. -/
import Derived.Test.YtjkepihkilnjiaaDoorSta
import Derived.Test.YtjkepihkilnjiaaDoorLaw
set_option maxRecDepth 100000
namespace Go.Mx.Tryd

def cntF (x y w h : Int) (n : Int) : List Ce → Int
  | [] => n
  | c :: r => cntF x y w h (if inBox x y w h c.x c.y then wr .i64 (n + 1) else n) r
theorem wr_range (x : Int) : -9223372036854775808 ≤ wr .i64 x ∧ wr .i64 x ≤ 9223372036854775807 := by
  rw [wr_mod_i64]; omega
theorem cntF_range (x y w h : Int) : ∀ (r : List Ce) (n : Int), -9223372036854775808 ≤ n ∧ n ≤ 9223372036854775807 → -9223372036854775808 ≤ cntF x y w h n r ∧ cntF x y w h n r ≤ 9223372036854775807
  | [], n, hn => hn
  | c :: r, n, hn => by
    simp only [cntF]
    refine cntF_range x y w h r _ ?_
    split
    · exact wr_range _
    · exact hn
def boxI (x y w h : Int) : List I := [.i .i64 x, .i .i64 y, .i .i64 w, .i .i64 h]

theorem den_s_loop (p : List Ce) (hl : (p.length : Int) ≤ 9223372036854775807) (x y w h : Int) (k : K) (P : Int → Prop)
    (he : ∀ E B n, -9223372036854775808 ≤ n ∧ n ≤ 9223372036854775807 → getE E 3 = some (.fa 3 0) → getB B 3 = some [.m (.i .i64 x), .m (.i .i64 y), .m (.i .i64 w), .m (.i .i64 h)] → getE E 4 = some (.m (.i .i64 n)) → At' G (.ex 0) ⟨E, [], ⟨B, []⟩⟩ k = P n) :
    ∀ (r : List Ce) (i : Nat) (n : Int) (B : List (Nat × List V)), p.drop i = r → i ≤ p.length → (-9223372036854775808 ≤ n ∧ n ≤ 9223372036854775807) → getB B 3 = some [.m (.i .i64 x), .m (.i .i64 y), .m (.i .i64 w), .m (.i .i64 h)] →
      Run G c13_B0 ⟨[(0, .m (.sl (cells3 p))), (1, .m (.ag (boxI x y w h))), (3, .fa 3 0), (4, .m (.i .i64 n)), (5, .m (.i .i64 0)), (6, .m (.i .i64 0)), (16, .m (.b false)), (17, .m (.sl (cells3 p))), (18, .m (.i .i64 p.length)), (19, .m (.i .i64 i))], [], ⟨B, []⟩⟩ (.seq c13_L0 k) = P (cntF x y w h n r)
  | [], i, n, B, hd, hi, hR, hB => by
    have := drop_nil hd hi
    subst this
    unfold c13_B0
    simp [he _ _ n hR, hB, cntF]
  | c :: r, i, n, B, hd, hi, hR, hB => by
    obtain ⟨hlt, hx, hd'⟩ := drop_cons hd
    have hnc := cells3_nth hx
    have hlen := cells3_len p
    have hw : wr .i64 ((i : Int) + 1) = ((i + 1 : Nat) : Int) := by rw [wr_i64 (by omega) (by omega)]; rfl
    have gi := inbox_s x y w h c.x c.y []
    have ih := fun n hR => den_s_loop p hl x y w h k P he r (i + 1) n (setB B 8 [.m (.i .i64 c.x), .m (.i .i64 c.y), .m (.i .i64 c.s)]) hd' hlt hR (by simp [hB])
    cases hb : inBox x y w h c.x c.y with
    | true =>
      rw [hb] at gi
      have ih := ih (wr .i64 (n + 1)) (wr_range _)
      unfold c13_B0
      simp [hlt, hnc, hlen, hB, wc gi, cntF, hb] at hw ⊢
      simp [hw]
      exact Eq.to_iff (by simpa using ih)
    | false =>
      rw [hb] at gi
      have ih := ih n hR
      unfold c13_B0
      simp [hlt, hnc, hlen, hB, wc gi, cntF, hb] at hw ⊢
      simp [hw]
      exact Eq.to_iff (by simpa using ih)

theorem den_r_loop (p : List Ce) (hl : (p.length : Int) ≤ 9223372036854775807) (x y w h : Int) (k : K) (P : Int → Prop)
    (he : ∀ E n, -9223372036854775808 ≤ n ∧ n ≤ 9223372036854775807 → getE E 3 = some (.fa 3 0) → getE E 4 = some (.m (.i .i64 n)) → At' G (.ex 0) ⟨E, [], ⟨[(3, [.m (.i .i64 x), .m (.i .i64 y), .m (.i .i64 w), .m (.i .i64 h)])], []⟩⟩ k = P n) :
    ∀ (r : List Ce) (i : Nat) (n : Int), p.drop i = r → i ≤ p.length → (-9223372036854775808 ≤ n ∧ n ≤ 9223372036854775807) →
      Run G c14_B0 ⟨[(0, .m (.sl (cells3 p))), (1, .m (.ag (boxI x y w h))), (3, .fa 3 0), (4, .m (.i .i64 n)), (5, .m (.i .i64 0)), (6, .m (.i .i64 0)), (7, .m (.i .i64 i)), (15, .m (.b false))], [], ⟨[(3, [.m (.i .i64 x), .m (.i .i64 y), .m (.i .i64 w), .m (.i .i64 h)])], []⟩⟩ (.seq c14_L0 k) = P (cntF x y w h n r)
  | [], i, n, hd, hi, hR => by
    have := drop_nil hd hi
    subst this
    have hlen := cells3_len p
    unfold c14_B0
    simp [he _ n hR, cntF, hlen]
  | c :: r, i, n, hd, hi, hR => by
    obtain ⟨hlt, hx, hd'⟩ := drop_cons hd
    have hnc := cells3_nth hx
    have hlen := cells3_len p
    have hw : wr .i64 ((i : Int) + 1) = ((i + 1 : Nat) : Int) := by rw [wr_i64 (by omega) (by omega)]; rfl
    have gi := inbox_r x y w h c.x c.y []
    have ih := fun n hR => den_r_loop p hl x y w h k P he r (i + 1) n hd' hlt hR
    cases hb : inBox x y w h c.x c.y with
    | true =>
      rw [hb] at gi
      have ih := ih (wr .i64 (n + 1)) (wr_range _)
      unfold c14_B0
      simp [hlt, hnc, hlen, wc gi, cntF, hb] at hw ⊢
      simp [hw]
      exact Eq.to_iff (by simpa using ih)
    | false =>
      rw [hb] at gi
      have ih := ih n hR
      unfold c14_B0
      simp [hlt, hnc, hlen, wc gi, cntF, hb] at hw ⊢
      simp [hw]
      exact Eq.to_iff (by simpa using ih)

/-- What both texts of Density give. -/
def denV (p : List Ce) (x y w h : Int) : V :=
  if (right p && rightBox x y w h) = false then .tu [.m (.i .i64 0), .m (.i .i64 0), .m (.i .i64 2)] else ratV (cntF x y w h 0 p) (wr .i64 (w * h))

theorem dens_s (p : List Ce) (hl : (p.length : Int) ≤ 9223372036854775807) (x y w h : Int) (H : Hp) : Gives G 13 [.m (.sl (cells3 p)), .m (.ag (boxI x y w h))] H (denV p x y w h) H := by
  have g1 := right_s p hl []
  have g2 := box_s x y w h []
  have hlen := cells3_len p
  refine gives_pur rfl rfl rfl rfl rfl ?_
  unfold denV
  cases hr : right p with
  | false => rw [hr] at g1; simp [wc g1, boxI]
  | true =>
    rw [hr] at g1
    cases hb : rightBox x y w h with
    | false => rw [hb] at g2; simp [wc g1, wc g2, boxI]
    | true =>
      rw [hb] at g2
      have key := fun k P he => den_s_loop p hl x y w h k P he p 0 0 [(3, [.m (.i .i64 x), .m (.i .i64 y), .m (.i .i64 w), .m (.i .i64 h)])] rfl (Nat.zero_le _) ⟨by omega, by omega⟩ rfl
      have z : ((0 : Nat) : Int) = 0 := rfl
      simp only [z, boxI] at key
      simp [wc g1, wc g2, boxI, hlen]
      rw [key _ (fun n => ratV n (wr .i64 (w * h)) = ratV (cntF x y w h 0 p) (wr .i64 (w * h)))]
      intro E B n hR h3 hB h4
      generalize ratV (cntF x y w h 0 p) (wr .i64 (w * h)) = v
      obtain ⟨r3, r4⟩ := wr_range (w * h)
      obtain ⟨a, b, e, hv, _⟩ := rat_form _ _ hR.1 hR.2 r3 r4
      have g3 := ratio_s _ _ [] hR.1 hR.2 r3 r4
      rw [hv] at g3 ⊢
      simp [h3, hB, h4, wc g3]
theorem dens_r (p : List Ce) (hl : (p.length : Int) ≤ 9223372036854775807) (x y w h : Int) (H : Hp) : Gives G 14 [.m (.sl (cells3 p)), .m (.ag (boxI x y w h))] H (denV p x y w h) H := by
  have g1 := right_r p hl []
  have g2 := box_r x y w h []
  have hlen := cells3_len p
  refine gives_pur rfl rfl rfl rfl rfl ?_
  unfold denV
  cases hr : right p with
  | false => rw [hr] at g1; simp [wc g1, boxI]
  | true =>
    rw [hr] at g1
    cases hb : rightBox x y w h with
    | false => rw [hb] at g2; simp [wc g1, wc g2, boxI]
    | true =>
      rw [hb] at g2
      have key := fun k P he => den_r_loop p hl x y w h k P he p 0 0 rfl (Nat.zero_le _) ⟨by omega, by omega⟩
      have z : ((0 : Nat) : Int) = 0 := rfl
      simp only [z, boxI] at key
      simp [wc g1, wc g2, boxI, hlen]
      rw [key _ (fun n => ratV n (wr .i64 (w * h)) = ratV (cntF x y w h 0 p) (wr .i64 (w * h)))]
      intro E n hR h3 h4
      generalize ratV (cntF x y w h 0 p) (wr .i64 (w * h)) = v
      obtain ⟨r3, r4⟩ := wr_range (w * h)
      obtain ⟨a, b, e, hv, _⟩ := rat_form _ _ hR.1 hR.2 r3 r4
      have g3 := ratio_r _ _ [] hR.1 hR.2 r3 r4
      rw [hv] at g3 ⊢
      simp [h3, h4, wc g3]
theorem dens_s0 (x y w h : Int) (H : Hp) : Gives G 13 [.m (.nl 4), .m (.ag (boxI x y w h))] H (denV [] x y w h) H := by
  have g1 := right_s0 []
  have g2 := box_s x y w h []
  have hr : right [] = true := rfl
  rw [hr] at g1
  refine gives_pur rfl rfl rfl rfl rfl ?_
  unfold denV
  cases hb : rightBox x y w h with
  | false => rw [hb] at g2; simp [wc g1, wc g2, boxI]
  | true =>
    rw [hb] at g2
    obtain ⟨r3, r4⟩ := wr_range (w * h)
    obtain ⟨a, b, e, hv, _⟩ := rat_form 0 _ (by omega) (by omega) r3 r4
    have g3 := ratio_s 0 _ [] (by omega) (by omega) r3 r4
    have hv' : ratV (cntF x y w h 0 []) (wr .i64 (w * h)) = .tu [.m (.i .i64 a), .m (.i .i64 b), .m (.i .i64 e)] := hv
    rw [hv'] 
    rw [hv] at g3
    simp [wc g1, wc g2, boxI, hr, wc g3, c13_B0]
theorem dens_r0 (x y w h : Int) (H : Hp) : Gives G 14 [.m (.nl 4), .m (.ag (boxI x y w h))] H (denV [] x y w h) H := by
  have g1 := right_r0 []
  have g2 := box_r x y w h []
  have hr : right [] = true := rfl
  rw [hr] at g1
  refine gives_pur rfl rfl rfl rfl rfl ?_
  unfold denV
  cases hb : rightBox x y w h with
  | false => rw [hb] at g2; simp [wc g1, wc g2, boxI]
  | true =>
    rw [hb] at g2
    obtain ⟨r3, r4⟩ := wr_range (w * h)
    obtain ⟨a, b, e, hv, _⟩ := rat_form 0 _ (by omega) (by omega) r3 r4
    have g3 := ratio_r 0 _ [] (by omega) (by omega) r3 r4
    have hv' : ratV (cntF x y w h 0 []) (wr .i64 (w * h)) = .tu [.m (.i .i64 a), .m (.i .i64 b), .m (.i .i64 e)] := hv
    rw [hv'] 
    rw [hv] at g3
    simp [wc g1, wc g2, boxI, hr, wc g3, c14_B0]

/- The law. -/
theorem ints_loop (l : List Int) (hl : (l.length : Int) ≤ 9223372036854775807) (k : K) (P : Prop) (he : ∀ E, At' G (.ex 0) ⟨E, [], ⟨[], []⟩⟩ k = P) :
    ∀ (r : List Int) (i : Nat), l.drop i = r → i ≤ l.length →
      Run G c15_B0 ⟨[(0, .m (.sl (cellsI l))), (1, .m (.sl (cellsI l))), (10, .m (.b false)), (12, .m (.i .i64 l.length)), (13, .m (.i .i64 i))], [], ⟨[], []⟩⟩ (.seq c15_L0 k) = P
  | [], i, hd, hi => by
    have : i = l.length := by
      have := congrArg List.length hd
      simp at this
      omega
    subst this
    unfold c15_B0
    simp [he]
  | x :: r, i, hd, hi => by
    have hlt : i < l.length := by
      have := congrArg List.length hd
      simp at this
      omega
    have hx : l[i]? = some x := by
      have := congrArg (fun t => t[0]?) hd
      simpa using this
    have hn : nth (cellsI l) i = some [.i .i64 x] := by rw [nth_get]; simp [cellsI, hx]
    have hlen : (cellsI l).length = l.length := by simp [cellsI]
    have ih := ints_loop l hl k P he r (i + 1) (by rw [← List.drop_drop, hd]; rfl) hlt
    have hw : wr .i64 ((i : Int) + 1) = ((i + 1 : Nat) : Int) := by rw [wr_i64 (by omega) (by omega)]; rfl
    unfold c15_B0
    simp [hlt, hn, hlen] at hw ⊢
    simp [hw]
    exact Eq.to_iff (by simpa using ih)
theorem ints_eq (l : List Int) (hl : (l.length : Int) ≤ 9223372036854775807) (H : Hp) : Gives G 15 [.m (.sl (cellsI l)), .m (.sl (cellsI l))] H (.m (.b true)) H := by
  refine gives_pur rfl rfl rfl rfl rfl ?_
  have hlen : (cellsI l).length = l.length := by simp [cellsI]
  have key := fun k P he => ints_loop l hl k P he l 0 rfl (Nat.zero_le _)
  have z : ((0 : Nat) : Int) = 0 := rfl
  simp only [z] at key
  simp [hlen]
  rw [key _ True]
  · trivial
  · intro E
    simp
theorem ints_nil (H : Hp) : Gives G 15 [.m (.nl 4), .m (.nl 4)] H (.m (.b true)) H := by
  refine gives_pur rfl rfl rfl rfl rfl ?_
  simp [c15_B0]

theorem updAll_len : ∀ (r : List Ce) (l : List Int), (updAll l r).length = l.length
  | [], l => rfl
  | c :: r, l => by rw [updAll, updAll_len r, upd_len]
theorem staV_form (p : List Ce) (n : Int) : ∃ (v : I) (e : Int), staV p n = .tu [.m v, .m (.i .i64 e)] ∧ Gives G 15 [.m v, .m v] [] (.m (.b true)) [] := by
  unfold staV
  split
  · exact ⟨_, _, rfl, ints_nil []⟩
  · split
    · exact ⟨_, _, rfl, ints_nil []⟩
    · refine ⟨_, _, rfl, ints_eq _ ?_ []⟩
      rw [updAll_len]
      simp
      omega
theorem denV_form (p : List Ce) (x y w h : Int) : ∃ a b e : Int, denV p x y w h = .tu [.m (.i .i64 a), .m (.i .i64 b), .m (.i .i64 e)] := by
  unfold denV
  split
  · exact ⟨_, _, _, rfl⟩
  · obtain ⟨r1, r2⟩ := cntF_range x y w h p 0 ⟨by omega, by omega⟩
    obtain ⟨r3, r4⟩ := wr_range (w * h)
    obtain ⟨a, b, e, hv, _⟩ := rat_form _ _ r1 r2 r3 r4
    exact ⟨a, b, e, hv⟩

theorem law_states (hA : Gives G 8 [] [] (.m (.b true)) []) (p : List Ce) (v : I) (hv : v = .sl (cells3 p) ∨ (v = .nl 4 ∧ p = [])) (hl : (p.length : Int) ≤ 9223372036854775807) (n x y w h : Int) :
    Gives G 4 [.m v, .m (.i .i64 n), .m (.ag (boxI x y w h))] [] (.m (.b true)) [] := by
  have g : Gives G 11 [.m v, .m (.i .i64 n)] [] (staV p n) [] ∧ Gives G 12 [.m v, .m (.i .i64 n)] [] (staV p n) [] ∧ Gives G 13 [.m v, .m (.ag (boxI x y w h))] [] (denV p x y w h) [] ∧ Gives G 14 [.m v, .m (.ag (boxI x y w h))] [] (denV p x y w h) [] := by
    rcases hv with rfl | ⟨rfl, rfl⟩
    · exact ⟨states_s p hl n [], states_r p hl n [], dens_s p hl x y w h [], dens_r p hl x y w h []⟩
    · exact ⟨states_s0 n [], states_r0 n [], dens_s0 x y w h [], dens_r0 x y w h []⟩
  obtain ⟨g1, g2, g3, g4⟩ := g
  obtain ⟨i, e, hs, hi⟩ := staV_form p n
  obtain ⟨a, b, f, hd⟩ := denV_form p x y w h
  rw [hs] at g1 g2
  rw [hd] at g3 g4
  have hlen := cells3_len p
  refine gives_pur rfl rfl rfl rfl rfl ?_
  simp only [boxI] at g3 g4 ⊢
  by_cases hbig : (300 : Int) < p.length
  · rcases hv with rfl | ⟨rfl, rfl⟩
    · simp [hlen, hbig, wc hA]
    · simp at hbig
  · rcases hv with rfl | ⟨rfl, rfl⟩
    · simp [hlen, hbig, wc hA, wc g1, wc g2, wc g3, wc g4, wc hi]
    · simp [wc hA, wc g1, wc g2, wc g3, wc g4, wc hi]

theorem fits_cell {P : Program} {B n : Nat} {t : TypeId} {a b c : Field} {l : List I} (h0 : P.underlying t = some (.struct #[a, b, c])) (ha : P.underlying a.type = some (.int .i64)) (hb : P.underlying b.type = some (.int .i64)) (hc : P.underlying c.type = some (.int .i64))
    (h : Fits P B (n + 2) t l) : ∃ d : Ce, l = d.i := by
  unfold Fits at h
  rw [h0] at h
  simp only [FitsF] at h
  obtain ⟨x1, y1, rfl, k1, x2, y2, rfl, k2, x3, y3, rfl, k3, rfl⟩ := h
  unfold Fits at k1 k2 k3
  rw [ha] at k1
  rw [hb] at k2
  rw [hc] at k3
  obtain ⟨u, rfl, _⟩ := k1
  obtain ⟨v, rfl, _⟩ := k2
  obtain ⟨w, rfl, _⟩ := k3
  exact ⟨⟨u, v, w⟩, rfl⟩
theorem fits_pat {es : List (List I)} (h : ∀ x, x ∈ es → ∃ d : Ce, x = d.i) : ∃ p : List Ce, es = cells3 p := by
  induction es with
  | nil => exact ⟨[], rfl⟩
  | cons x r ih =>
    obtain ⟨d, rfl⟩ := h x (by simp)
    obtain ⟨p, rfl⟩ := ih fun x hx => h x (by simp [hx])
    exact ⟨d :: p, rfl⟩

theorem stats_states (us : List V) (h : ArgsOk Go.Proofs.Tryd.prog maxLen 8 Go.Proofs.Tryd.f4.params.toList us) : Gives G 4 us [] (.m (.b true)) [] := by
  have e : Go.Proofs.Tryd.f4.params.toList = [23, 3, 26] := by rw [Go.Proofs.Tryd.params4]
  have h := e ▸ h
  obtain ⟨l1, r1, rfl, hl1, h⟩ := argsOk_cons h
  obtain ⟨l2, r2, rfl, hl2, h⟩ := argsOk_cons h
  obtain ⟨l3, r3, rfl, hl3, h⟩ := argsOk_cons h
  have := argsOk_nil h
  subst this
  have a1 : aggT Go.Proofs.Tryd.prog 23 = some false := by unfold aggT; rw [Go.Proofs.Tryd.underlying23]; rfl
  have a2 : aggT Go.Proofs.Tryd.prog 3 = some false := by unfold aggT; rw [Go.Proofs.Tryd.underlying3]; rfl
  have a3 : aggT Go.Proofs.Tryd.prog 26 = some true := by unfold aggT; rw [Go.Proofs.Tryd.underlying26]; rfl
  have q1 : ∃ (p : List Ce) (v : I), l1 = [v] ∧ (v = .sl (cells3 p) ∨ (v = .nl 4 ∧ p = [])) ∧ p.length ≤ maxLen := by
    unfold Fits at hl1
    rw [Go.Proofs.Tryd.underlying23] at hl1
    simp only at hl1
    rcases hl1 with rfl | ⟨es, rfl, hle, hes⟩
    · exact ⟨[], _, rfl, .inr ⟨rfl, rfl⟩, by simp⟩
    · obtain ⟨p, rfl⟩ := fits_pat fun x hx => fits_cell (n := 5) Go.Proofs.Tryd.underlying58 Go.Proofs.Tryd.underlying3 Go.Proofs.Tryd.underlying3 Go.Proofs.Tryd.underlying3 (hes x hx)
      exact ⟨p, _, rfl, .inl rfl, by rw [cells3_len] at hle; exact hle⟩
  obtain ⟨p, v, rfl, hv, hp⟩ := q1
  unfold Fits at hl2
  rw [Go.Proofs.Tryd.underlying3] at hl2
  simp only at hl2
  obtain ⟨n, rfl, _⟩ := hl2
  have q3 : ∃ x y w h : Int, l3 = boxI x y w h := by
    unfold Fits at hl3
    rw [Go.Proofs.Tryd.underlying26] at hl3
    simp only [FitsF] at hl3
    obtain ⟨x1, y1, rfl, k1, x2, y2, rfl, k2, x3, y3, rfl, k3, x4, y4, rfl, k4, rfl⟩ := hl3
    unfold Fits at k1 k2 k3 k4
    rw [Go.Proofs.Tryd.underlying3] at k1 k2 k3 k4
    simp only at k1 k2 k3 k4
    obtain ⟨x, rfl, _⟩ := k1
    obtain ⟨y, rfl, _⟩ := k2
    obtain ⟨w, rfl, _⟩ := k3
    obtain ⟨ht, rfl, _⟩ := k4
    exact ⟨x, y, w, ht, rfl⟩
  obtain ⟨x, y, w, ht, rfl⟩ := q3
  rw [argV_one a1, argV_one a2, argV_ag a3]
  have hm : maxLen ≤ 9223372036854775807 := by decide
  exact law_states gives_awake p v hv (by omega) n x y w ht
end Go.Mx.Tryd
