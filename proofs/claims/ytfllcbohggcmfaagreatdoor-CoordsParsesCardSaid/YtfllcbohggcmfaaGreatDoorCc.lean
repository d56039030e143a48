/- put and Parse of the reference. -/
import Derived.Test.YtfllcbohggcmfaaGreatDoorCb
import Derived.Test.YtfllcbohggcmfaaGreatDoorKg
import Derived.Test.YtfllcbohggcmfaaGreatDoorKl
set_option linter.unusedSimpArgs false
set_option linter.unusedVariables false
set_option linter.unusedSectionVars false
set_option maxRecDepth 100000
namespace Go.Mx.Tryz
open Go.Lib

theorem immS_rows3 (p : List Ce) : immS (cells3 p) = rows3 p := by
  unfold immS cells3 rows3
  rw [List.map_map]
  rfl
theorem rows3_app (a b : List Ce) : rows3 a ++ rows3 b = rows3 (a ++ b) := by simp [rows3]
theorem rows3_one (p : List Ce) : ((rows3 p).all fun e => Nat.beq e.length 3 && e.all oneV) = true := by
  rw [List.all_eq_true]
  intro e he
  unfold rows3 at he
  obtain ⟨c, _, rfl⟩ := List.mem_map.1 he
  rfl
theorem cells3_el (p : List Ce) : okEl 3 (cells3 p) = true := by
  cases p <;> rfl
theorem outP_app {f g : List Ce} {o : V} {H : Hp} (h : OutP f o H) (hl : f.length ≤ 1000000) (hg : g.length ≤ 1000000) : ∃ o1 H1, (∀ B, appX ⟨B, H⟩ 40 3 24 o (rows3 g) = some (o1, ⟨B, H1⟩)) ∧ noFaV o1 = true ∧ OutP (f ++ g) o1 H1 := by
  cases g with
  | nil =>
    refine ⟨o, H, fun B => ?_, ?_, by simpa using h⟩
    · rcases h with ⟨_, rfl, _⟩ | ⟨_, rfl, _⟩ <;> rfl
    · rcases h with ⟨_, rfl, _⟩ | ⟨_, rfl, _⟩ <;> rfl
  | cons c r =>
    have ho := rows3_one (c :: r)
    rcases h with ⟨rfl, rfl, rfl⟩ | ⟨hne, rfl, rfl⟩
    · refine ⟨.sl 0 (r.length + 1) 3 0 (r.length + 1) false, [.cs 40 3 (rows3 (c :: r)) 0 false], fun B => ?_, rfl, .inr ⟨by simp, rfl, rfl⟩⟩
      show newRow ⟨B, []⟩ 40 3 24 (rows3 (c :: r)) = _
      unfold newRow
      have hb : Nat.ble ((rows3 (c :: r)).length * 24) 140737488355328 = true := by
        rw [Nat.ble_eq, rows3_len]
        omega
      have h3 : Nat.ble 1 3 = true := rfl
      rw [hb, ho, h3]
      simp [gd]
    · have ha := fun B => app_row (M := ⟨B, [.cs 40 3 (rows3 f) 0 false]⟩) (r := 0) (bytes := 24) (xs := rows3 (c :: r)) rfl (by simp [rows3]) (by rw [rows3_len, rows3_len]; omega) ho
      simp only [rows3_len, List.set_cons_zero, rows3_app] at ha
      exact ⟨_, _, ha, rfl, .inr ⟨by simp, by simp, rfl⟩⟩
theorem outP_view {f : List Ce} {o : V} {H : Hp} (h : OutP f o H) : viewR H o = some (.m (zP f)) := by
  rcases h with ⟨rfl, rfl, rfl⟩ | ⟨hne, rfl, rfl⟩
  · rfl
  · show Option.bind (view 20 _ (.sl 0 f.length 3 0 f.length false)) _ = _
    rw [viewP (r := 0) (A := []) rfl (Nat.zero_le _) 18]
    unfold zP
    rw [if_neg hne]
    rfl
theorem outP_v {f : List Ce} {o : V} {H : Hp} (h : OutP f o H) : view 20 H o = some (zP f) := by
  cases hv : view 20 H o with
  | none =>
    rcases ‹OutP f o H› with ⟨rfl, rfl, rfl⟩ | ⟨hne, rfl, rfl⟩
    · cases hv
    · rw [viewP (r := 0) (A := []) rfl (Nat.zero_le _) 18] at hv
      cases hv
  | some i =>
    rcases ‹OutP f o H› with ⟨rfl, rfl, rfl⟩ | ⟨hne, rfl, rfl⟩
    · cases hv; rfl
    · rw [viewP (r := 0) (A := []) rfl (Nat.zero_le _) 18] at hv
      cases hv
      unfold zP
      rw [if_neg hne]
theorem app_sl {y : I} {es : List (List I)} (h : IsSl y es) (c : Call) (M : Mem) (ty esz b : Nat) (s : V) : loudX c M (.app ty esz b) [s, .m y] = appX M ty esz b s (immS es) := by
  rcases h with rfl | ⟨rfl, rfl⟩ <;> rfl
theorem app_ls (es : List (List I)) (c : Call) (M : Mem) (ty esz b : Nat) (s : V) : loudX c M (.app ty esz b) [s, .ls es] = appX M ty esz b s (immS es) := rfl
def kOf (p : List Ce) (c : Ce) : Nat := (p.takeWhile fun d => less d c).length
def insP (p : List Ce) (c : Ce) : List Ce := p.take (kOf p c) ++ c :: p.drop (kOf p c)
theorem kOf_le (p : List Ce) (c : Ce) : kOf p c ≤ p.length := by
  unfold kOf
  exact (List.takeWhile_sublist _).length_le
theorem kOf_lt : ∀ {p : List Ce} {c : Ce} {j : Nat} {d : Ce}, j < kOf p c → p[j]? = some d → less d c = true
  | [], c, j, d, h, hd => by cases hd
  | a :: r, c, j, d, h, hd => by
    unfold kOf at h
    rw [List.takeWhile_cons] at h
    split at h
    · rename_i ha
      cases j with
      | zero => simp at hd; subst hd; exact ha
      | succ j => exact kOf_lt (p := r) (by unfold kOf; simpa using h) (by simpa using hd)
    · simp at h
theorem kOf_at : ∀ {p : List Ce} {c d : Ce}, p[kOf p c]? = some d → less d c = false
  | [], c, d, hd => by cases hd
  | a :: r, c, d, hd => by
    unfold kOf at hd
    rw [List.takeWhile_cons] at hd
    split at hd
    · rename_i ha
      exact kOf_at (p := r) (by unfold kOf; simpa using hd)
    · rename_i ha
      simp at hd
      subst hd
      simpa using ha
theorem less_tr {a b c : Ce} (h1 : less a b = true) (h2 : less b c = true) : less a c = true := by
  unfold less at *
  simp at *
  omega
theorem less_nt {a b c : Ce} (h1 : less a b = true) (h2 : less a c = false) : less b c = false := by
  unfold less at *
  simp at *
  omega
theorem less_no {a b : Ce} (h1 : less a b = false) (h2 : ¬ (a.x = b.x ∧ a.y = b.y)) : less b a = true := by
  unfold less at *
  simp at *
  omega
theorem kOf_ge {p : List Ce} (hw : p.Pairwise fun a b => less a b = true) {c : Ce} {j : Nat} {d : Ce} (h : kOf p c ≤ j) (hd : p[j]? = some d) : less d c = false := by
  have hj := (get_drop hd).1
  have hk : p[kOf p c]? = some p[kOf p c] := List.getElem?_eq_getElem (by omega)
  have h1 := kOf_at hk
  by_cases e : kOf p c = j
  · subst e
    rw [hk] at hd
    cases hd
    exact h1
  · have h2 := List.pairwise_iff_getElem.1 hw (kOf p c) j (by omega) hj (by omega)
    obtain ⟨hlt, e2⟩ := List.getElem?_eq_some_iff.1 hd
    rw [e2] at h2
    exact less_nt h2 h1
def sameAt (c d : Ce) : Bool := decide (d.x = c.x ∧ d.y = c.y)
/-- One at the place is where the new one would go. -/
theorem any_at {p : List Ce} (hw : p.Pairwise fun a b => less a b = true) (c : Ce) : p.any (sameAt c) = match p[kOf p c]? with | some d => sameAt c d | none => false := by
  rw [Bool.eq_iff_iff, List.any_eq_true]
  constructor
  · rintro ⟨d, hd, h⟩
    obtain ⟨j, hj, rfl⟩ := List.mem_iff_getElem.1 hd
    have hs : p[j]? = some p[j] := List.getElem?_eq_getElem hj
    unfold sameAt at h
    rw [decide_eq_true_eq] at h
    have hge : kOf p c ≤ j := Nat.le_of_not_lt fun hlt => by
      have := kOf_lt hlt hs
      unfold less at this
      simp at this
      omega
    have hk : p[kOf p c]? = some p[kOf p c] := List.getElem?_eq_getElem (by omega)
    rw [hk]
    by_cases e : kOf p c = j
    · simp only [e]
      unfold sameAt
      exact decide_eq_true h
    · have h1 := kOf_at hk
      have h2 := List.pairwise_iff_getElem.1 hw (kOf p c) j (by omega) hj (by omega)
      unfold less at h1 h2
      simp at h1 h2
      omega
  · intro h
    cases hk : p[kOf p c]? with
    | none => rw [hk] at h; cases h
    | some d =>
      rw [hk] at h
      exact ⟨d, List.mem_of_getElem? hk, h⟩
theorem insP_pw {p : List Ce} (hw : p.Pairwise fun a b => less a b = true) {c : Ce} (h : p.any (sameAt c) = false) : (insP p c).Pairwise fun a b => less a b = true := by
  unfold insP
  rw [List.any_eq_false] at h
  have hge : ∀ d, d ∈ p.drop (kOf p c) → less c d = true := fun d hd => by
    obtain ⟨j, hj, e⟩ := List.mem_iff_getElem.1 hd
    rw [List.getElem_drop] at e
    have hs : p[kOf p c + j]? = some d := by rw [← e]; exact List.getElem?_eq_getElem _
    have h1 := kOf_ge hw (Nat.le_add_right _ _) hs
    have h2 := h d (List.mem_of_getElem? hs)
    unfold sameAt at h2
    rw [decide_eq_true_eq] at h2
    exact less_no h1 h2
  have hlt : ∀ d, d ∈ p.take (kOf p c) → less d c = true := fun d hd => by
    obtain ⟨j, hj, e⟩ := List.mem_iff_getElem.1 hd
    rw [List.getElem_take] at e
    have hjk : j < kOf p c := by rw [List.length_take] at hj; omega
    exact kOf_lt hjk (by rw [← e]; exact List.getElem?_eq_getElem _)
  refine List.pairwise_append.2 ⟨hw.sublist (List.take_sublist _ _), List.pairwise_cons.2 ⟨hge, hw.sublist (List.drop_sublist _ _)⟩, fun a ha b hb => ?_⟩
  rcases List.mem_cons.1 hb with rfl | hb
  · exact hlt a ha
  · exact less_tr (hlt a ha) (hge b hb)
theorem insP_perm (p : List Ce) (c : Ce) : (insP p c).Perm (c :: p) := by
  unfold insP
  have : (p.take (kOf p c) ++ c :: p.drop (kOf p c)).Perm (c :: (p.take (kOf p c) ++ p.drop (kOf p c))) := List.perm_middle
  rwa [List.take_append_drop] at this
theorem insP_len (p : List Ce) (c : Ce) : (insP p c).length = p.length + 1 := (insP_perm p c).length_eq
set_option maxHeartbeats 4000000 in
theorem put_r {p : List Ce} (hw : p.Pairwise fun a b => less a b = true) (hl : p.length ≤ 100000) (c : Ce) (H : Hp) : Gives G 25 [.m (zP p), .m (.ag [.i .i64 c.x, .i .i64 c.y, .i .i64 c.s])] H (if p.any (sameAt c) = true then .tu [.m (.nl 4), .m (.b false)] else .tu [.m (.sl (cells3 (insP p c))), .m (.b true)]) H := by
  refine gives_pur rfl rfl rfl rfl rfl ?_
  have hv := zP_sl p
  have hsl := fun (lo hi : Bool) (vs : List V) => hv.slc (esz := 3) (cells3_el p) rfl lo hi vs
  have hkl := kOf_le p c
  have ha := any_at hw c
  generalize hres : (if p.any (sameAt c) = true then V.tu [.m (.nl 4), .m (.b false)] else .tu [.m (.sl (cells3 (insP p c))), .m (.b true)]) = res
  generalize hzp : zP p = v at *
  simp (maxSteps := 2000000) (disch := omega) [gd_in, gd_and, wr_i64, hv.rules]
  refine (?key : ∀ (i : Nat), kOf p c ≤ i → i ≤ p.length → Run G c25_B0 (S25_0 (.m v) (.fa 3 0) (.m (.i .i64 (i : Int))) [(3, [.m (.i .i64 c.x), .m (.i .i64 c.y), .m (.i .i64 c.s)])] []) _) p.length hkl (Nat.le_refl _)
  refine indM (fun i : Nat => i) fun i ih hki hip => ?_
  unfold c25_B0
  by_cases hst : i = kOf p c
  · -- here it stops
    subst hst
    obtain ⟨o1, H1, a1, n1, q1⟩ := outP_app (f := []) (g := p.take (kOf p c)) (o := .m (.nl 4)) (H := []) (.inl ⟨rfl, rfl, rfl⟩) (by simp) (by rw [List.length_take]; omega)
    obtain ⟨o2, H2, a2, n2, q2⟩ := outP_app (g := [c]) q1 (by simp; omega) (by simp)
    obtain ⟨o3, H3, a3, n3, q3⟩ := outP_app (g := p.drop (kOf p c)) q2 (by simp; omega) (by simp; omega)
    have hq : [] ++ p.take (kOf p c) ++ [c] ++ p.drop (kOf p c) = insP p c := by simp [insP]
    rw [hq] at q3
    have hview := outP_v q3
    have hzq : zP (insP p c) = .sl (cells3 (insP p c)) := by
      unfold zP
      rw [if_neg (by have := insP_len p c; intro e; rw [e] at this; simp at this)]
    rw [hzq] at hview
    have s1 : immS (((cells3 p).drop 0).take (kOf p c - 0)) = rows3 (p.take (kOf p c)) := by
      rw [List.drop_zero, Nat.sub_zero]
      unfold cells3
      rw [← List.map_take]
      exact immS_rows3 _
    have s3 : immS (((cells3 p).drop (kOf p c)).take (p.length - kOf p c)) = rows3 (p.drop (kOf p c)) := by
      rw [List.take_of_length_le (by simp)]
      unfold cells3
      rw [← List.map_drop]
      exact immS_rows3 _
    have A1 : ∀ (cl : Call) B, loudX cl ⟨B, []⟩ (.app 40 3 24) [.m (.nl 4), .m (subI v 0 (kOf p c))] = some (o1, ⟨B, H1⟩) := fun cl B => by
      rw [app_sl (hv.sub 0 (kOf p c)), s1]
      exact a1 B
    have A2 : ∀ (cl : Call) B, loudX cl ⟨B, H1⟩ (.app 40 3 24) [o1, .ls [[.i .i64 c.x, .i .i64 c.y, .i .i64 c.s]]] = some (o2, ⟨B, H2⟩) := fun cl B => by
      rw [app_ls]
      exact a2 B
    have A3 : ∀ (cl : Call) B, loudX cl ⟨B, H2⟩ (.app 40 3 24) [o2, .m (subI v (kOf p c) p.length)] = some (o3, ⟨B, H3⟩) := fun cl B => by
      rw [app_sl (hv.sub (kOf p c) p.length), s3]
      exact a3 B
    have hk0 : (0 : Int) ≤ (kOf p c : Int) ∧ (kOf p c : Int) ≤ p.length := by omega
    have hk1 : (kOf p c : Int) ≤ p.length := by omega
    -- the test ahead of the loop's end, in each of its cases, decided by the facts t..
    have hcases : (kOf p c = 0) ∨ (0 < kOf p c ∧ ∃ d, p[kOf p c - 1]? = some d ∧ less d c = true) := by
      by_cases h : kOf p c = 0
      · exact .inl h
      · have hd : p[kOf p c - 1]? = some p[kOf p c - 1] := List.getElem?_eq_getElem (by omega)
        exact .inr ⟨by omega, _, hd, kOf_lt (by omega) hd⟩
    generalize kOf p c = k at *
    rcases hcases with h0 | ⟨h0, d, hd, hls⟩
    · have p0 : ¬ (0 : Int) < (k : Int) := by omega
      have p0n : ¬ 0 < k := by omega
      cases hk : p[k]? with
      | none =>
        have hlen : ¬ (k : Int) < p.length := by have := List.getElem?_eq_none_iff.1 hk; omega
        have hlen' : ¬ k < p.length := by omega
        rw [hk] at ha
        rw [ha, if_neg (by simp)] at hres
        subst hres
        simp [p0, p0n, hlen, hlen', hv.rules, hsl, hk0, hk1, A1, A2, A3, n1, n2, n3, setC_v, hview, -loud_app]
      | some e =>
        have hlen : (k : Int) < p.length := by have := (get_drop hk).1; omega
        have hlen' : k < p.length := (get_drop hk).1
        have hne := cells3_nth hk
        rw [hk] at ha
        by_cases ex : e.x = c.x
        · by_cases ey : e.y = c.y
          · rw [ha, if_pos (by unfold sameAt; simp [ex, ey])] at hres
            subst hres
            simp [p0, p0n, hlen, hlen', hne, ex, ey, hv.rules, hsl, hk0, hk1, A1, A2, A3, n1, n2, n3, setC_v, hview, -loud_app]
          · rw [ha, if_neg (by unfold sameAt; simp [ey])] at hres
            subst hres
            simp [p0, p0n, hlen, hlen', hne, ex, ey, hv.rules, hsl, hk0, hk1, A1, A2, A3, n1, n2, n3, setC_v, hview, -loud_app]
        · rw [ha, if_neg (by unfold sameAt; simp [ex])] at hres
          subst hres
          simp [p0, p0n, hlen, hlen', hne, ex, hv.rules, hsl, hk0, hk1, A1, A2, A3, n1, n2, n3, setC_v, hview, -loud_app]
    · have p0 : (0 : Int) < (k : Int) := by omega
      have hnd := cells3_nth hd
      have p1k : (1 : Int) ≤ (k : Int) := by omega
      have p2k : (k : Int) - 1 < p.length := by omega
      have w1 : wr .i64 ((k : Int) - 1) = (k : Int) - 1 := wr_i64 (by omega) (by omega)
      have pr : (0 : Int) ≤ (k : Int) - 1 ∧ (k : Int) - 1 < p.length := by omega
      have t1 : ((k : Int) - 1).toNat = k - 1 := by omega
      unfold less at hls
      rw [decide_eq_true_eq] at hls
      have hy1 : ¬ c.y < d.y := by omega
      by_cases hy2 : d.y = c.y
      · have hx1 : ¬ c.x ≤ d.x := by omega
        cases hk : p[k]? with
        | none =>
          have hlen : ¬ (k : Int) < p.length := by have := List.getElem?_eq_none_iff.1 hk; omega
          have hlen' : ¬ k < p.length := by omega
          rw [hk] at ha
          rw [ha, if_neg (by simp)] at hres
          subst hres
          simp [p0, h0, p1k, p2k, w1, pr, t1, hnd, hy1, hy2, hx1, hlen, hlen', hv.rules, hsl, hk0, hk1, A1, A2, A3, n1, n2, n3, setC_v, hview, -loud_app]
        | some e =>
          have hlen : (k : Int) < p.length := by have := (get_drop hk).1; omega
          have hlen' : k < p.length := (get_drop hk).1
          have hne := cells3_nth hk
          rw [hk] at ha
          by_cases ex : e.x = c.x
          · by_cases ey : e.y = c.y
            · rw [ha, if_pos (by unfold sameAt; simp [ex, ey])] at hres
              subst hres
              simp [p0, h0, p1k, p2k, w1, pr, t1, hnd, hy1, hy2, hx1, hlen, hlen', hne, ex, ey, hv.rules, hsl, hk0, hk1, A1, A2, A3, n1, n2, n3, setC_v, hview, -loud_app]
            · rw [ha, if_neg (by unfold sameAt; simp [ey])] at hres
              subst hres
              simp [p0, h0, p1k, p2k, w1, pr, t1, hnd, hy1, hy2, hx1, hlen, hlen', hne, ex, ey, hv.rules, hsl, hk0, hk1, A1, A2, A3, n1, n2, n3, setC_v, hview, -loud_app]
          · rw [ha, if_neg (by unfold sameAt; simp [ex])] at hres
            subst hres
            simp [p0, h0, p1k, p2k, w1, pr, t1, hnd, hy1, hy2, hx1, hlen, hlen', hne, ex, hv.rules, hsl, hk0, hk1, A1, A2, A3, n1, n2, n3, setC_v, hview, -loud_app]
      · cases hk : p[k]? with
        | none =>
          have hlen : ¬ (k : Int) < p.length := by have := List.getElem?_eq_none_iff.1 hk; omega
          have hlen' : ¬ k < p.length := by omega
          rw [hk] at ha
          rw [ha, if_neg (by simp)] at hres
          subst hres
          simp [p0, h0, p1k, p2k, w1, pr, t1, hnd, hy1, hy2, hlen, hlen', hv.rules, hsl, hk0, hk1, A1, A2, A3, n1, n2, n3, setC_v, hview, -loud_app]
        | some e =>
          have hlen : (k : Int) < p.length := by have := (get_drop hk).1; omega
          have hlen' : k < p.length := (get_drop hk).1
          have hne := cells3_nth hk
          rw [hk] at ha
          by_cases ex : e.x = c.x
          · by_cases ey : e.y = c.y
            · rw [ha, if_pos (by unfold sameAt; simp [ex, ey])] at hres
              subst hres
              simp [p0, h0, p1k, p2k, w1, pr, t1, hnd, hy1, hy2, hlen, hlen', hne, ex, ey, hv.rules, hsl, hk0, hk1, A1, A2, A3, n1, n2, n3, setC_v, hview, -loud_app]
            · rw [ha, if_neg (by unfold sameAt; simp [ey])] at hres
              subst hres
              simp [p0, h0, p1k, p2k, w1, pr, t1, hnd, hy1, hy2, hlen, hlen', hne, ex, ey, hv.rules, hsl, hk0, hk1, A1, A2, A3, n1, n2, n3, setC_v, hview, -loud_app]
          · rw [ha, if_neg (by unfold sameAt; simp [ex])] at hres
            subst hres
            simp [p0, h0, p1k, p2k, w1, pr, t1, hnd, hy1, hy2, hlen, hlen', hne, ex, hv.rules, hsl, hk0, hk1, A1, A2, A3, n1, n2, n3, setC_v, hview, -loud_app]
  · have hi1 : i - 1 < p.length := by omega
    have hd : p[i - 1]? = some p[i - 1] := List.getElem?_eq_getElem hi1
    have hn := cells3_nth hd
    have hlf := kOf_ge hw (c := c) (j := i - 1) (by omega) hd
    have w1 : wr .i64 ((i : Int) - 1) = (i : Int) - 1 := wr_i64 (by omega) (by omega)
    have p0 : (0 : Int) < (i : Int) := by omega
    have p1 : (0 : Int) ≤ (i : Int) - 1 ∧ (i : Int) - 1 < p.length := by omega
    have p0n : 0 < i := by omega
    have p1k : (1 : Int) ≤ (i : Int) := by omega
    have p2k : (i : Int) - 1 < p.length := by omega
    have t1 : ((i : Int) - 1).toNat = i - 1 := by omega
    have ih := ih (i - 1) (by omega) (by omega) (by omega)
    have e1 : ((i - 1 : Nat) : Int) = (i : Int) - 1 := by omega
    rw [e1] at ih
    generalize p[i - 1] = d at *
    unfold less at hlf
    simp only [decide_eq_false_iff_not] at hlf
    by_cases hy : c.y < d.y
    · simp [hv.rules, w1, p0, p0n, p1k, p2k, p1, t1, hn, hy]
      exact ih
    · have hy2 : d.y = c.y := by omega
      have hx : c.x ≤ d.x := by omega
      simp [hv.rules, w1, p0, p0n, p1k, p2k, p1, t1, hn, hy, hy2, hx]
      exact ih
theorem in_r (x : Int) (H : Hp) : Gives G 24 [.m (.i .i64 x)] H (.m (.b (decide (-1048576 ≤ x ∧ x ≤ 1048576)))) H := by
  refine gives_pur rfl rfl rfl rfl rfl ?_
  by_cases h1 : -1048576 ≤ x
  · by_cases h2 : x ≤ 1048576
    · simp [h1, h2]
    · simp [h1, h2]
  · simp [h1]
/-- What the reference's Parse gives, by what the program's round does. -/
def RefR (r : List Ce ⊕ (Int × Int)) (v : V) : Prop := match r with
  | .inl f => ∃ p, p.Perm f ∧ (p.Pairwise fun a b => less a b = true) ∧ v = .tu [.m (zP p), .m (.i .i64 0), .m (.i .i64 0)]
  | .inr (n, e) => v = .tu [.m (.nl 4), .m (.i .i64 n), .m (.i .i64 e)]
theorem celS_nth {ws : List (List Nat)} {i : Nat} {w : List Nat} (h : ws[i]? = some w) : nth (celS ws) i = some [.s w] := by
  rw [nth_get]; simp [celS, h]
theorem prs_er {cf : List Nat → Ce × Int} {n : Int} {l : List Nat} {r : List (List Nat)} {f : List Ce} {e : Int} (h : step cf n l f = .er e) : prs cf n (l :: r) f = .inr (n, e) := by
  have : prs cf n (l :: r) f = match step cf n l f with | .go f' => prs cf (n + 1) r f' | .er e => .inr (n, e) := rfl
  rw [this, h]
theorem prs_go {cf : List Nat → Ce × Int} {n : Int} {l : List Nat} {r : List (List Nat)} {f f' : List Ce} (h : step cf n l f = .go f') : prs cf n (l :: r) f = prs cf (n + 1) r f' := by
  have : prs cf n (l :: r) f = match step cf n l f with | .go f' => prs cf (n + 1) r f' | .er e => .inr (n, e) := rfl
  rw [this, h]
theorem zP_ins (p : List Ce) (c : Ce) : zP (insP p c) = .sl (cells3 (insP p c)) := by
  unfold zP
  rw [if_neg (by have := insP_len p c; intro e; rw [e] at this; simp at this)]
set_option maxHeartbeats 8000000 in
theorem parse_r (s : List Nat) (hl : s.length ≤ 65536) (h0 : s ≠ []) (hb : ∀ c, c ∈ s → c < 256) (H : Hp) : ∃ v, RefR (prs cfM 1 (linesA [] s) []) v ∧ Gives G 11 [.m (.s s)] H v H := by
  have key : ∃ v H', Gives G 11 [.m (.s s)] H v H' ∧ (H' = H ∧ RefR (prs cfM 1 (linesA [] s) []) v) := by
    refine gives_of_ret ?_
    refine ret_pur rfl rfl rfl rfl rfl ?_
    have hT := linesA_len s []
    have gl := fun H => lines_r s (by omega) H
    have hlm : ∀ l, l ∈ linesA [] s → l.length ≤ 65536 ∧ ∀ c, c ∈ l → c < 256 := fun l h => by
      obtain ⟨k1, k2⟩ := linesA_mem s [] l h
      exact ⟨by simp at k1; omega, fun c hc => hb c (by simpa using k2 c hc)⟩
    have hzs := zS_sl (linesA [] s)
    have hld := lines_hd h0
    generalize linesA [] s = L at *
    have h65 : ¬ (65536 : Int) < s.length := by omega
    have hL1 : 1 ≤ L.length := by rw [hld]; simp
    have hn0 : nth (celS L) 0 = some [.s (hdB 10 s)] := by rw [hld]; rfl
    have hLn : ¬ L = [] := fun e => by rw [e] at hL1; simp at hL1
    have hLp : (0 : Int) < (L.length : Int) := by omega
    have hd0 : L.drop 0 = hdB 10 s :: L.drop 1 := by rw [hld]; rfl
    rw [List.drop_zero] at hd0
    clear hld
    by_cases hh : hdB 10 s = [35, 99, 101, 108, 108, 115]
    · have hq0 : prs cfM 1 L [] = prs cfM 2 (L.drop 1) [] := by
        rw [hd0]
        have := prs_go (cf := cfM) (n := 1) (l := hdB 10 s) (r := L.drop 1) (f := []) (f' := []) (by unfold step; rw [if_pos rfl, if_pos hh])
        rw [this]
        simp
      rw [hh] at hn0
      simp (maxSteps := 2000000) (disch := omega) [gd_in, gd_and, wr_i64, h65, cl (gl _), hzs.rules, hLn, hLp, hL1, hn0]
      refine (?key : ∀ (i : Nat) (p f : List Ce) (B : List (Nat × List V)) (H : Hp), 1 ≤ i → i ≤ L.length → p.Perm f → (p.Pairwise fun a b => less a b = true) → f.length ≤ 5000 → prs cfM 1 L [] = prs cfM ((i : Int) + 1) (L.drop i) f → Run G c11_B0 (S11_0 (.m (zS L)) (.m (zP p)) (.m (.i .i64 (i : Int))) B H) _) 1 [] [] [] [] (Nat.le_refl _) hL1 (.refl _) .nil (by simp) hq0
      refine indM (fun i : Nat => L.length - i) fun i ih p f B H hi1 hi hpf hw hf5 hq => ?_
      have wi : wr .i64 ((i : Int) + 1) = (i : Int) + 1 := wr_i64 (by omega) (by omega)
      unfold c11_B0
      cases hx : L[i]? with
      | none =>
        have : i = L.length := by have := List.getElem?_eq_none_iff.1 hx; omega
        subst this
        rw [List.drop_length] at hq
        have hR : RefR (prs cfM 1 L []) (.tu [.m (zP p), .m (.i .i64 0), .m (.i .i64 0)]) := by
          rw [hq]
          exact ⟨p, hpf, hw, rfl⟩
        generalize hLq : prs cfM 1 L [] = Lq at *
        simp (maxSteps := 2000000) (disch := omega) [gd_in, gd_and, wr_i64, hzs.rules]
        exact hR
      | some w =>
        have hlt := (get_drop hx).1
        have hlt' : (i : Int) < L.length := by omega
        have hn := celS_nth hx
        obtain ⟨hwl, hwb⟩ := hlm w (List.mem_of_getElem? hx)
        rw [(get_drop hx).2] at hq
        have hne1 : ¬ ((i : Int) + 1) = 1 := by omega
        have hst : step cfM ((i : Int) + 1) w f = if w = [] ∨ w.take 1 = [35] then .go f else if (cfM w).2 ≠ 0 then .er (cfM w).2 else if (f.any fun d => decide (d.x = (cfM w).1.x ∧ d.y = (cfM w).1.y)) = true then .er 8 else if 5000 ≤ f.length then .er 6 else .go (f ++ [(cfM w).1]) := by
          unfold step
          rw [if_neg hne1]
        by_cases hc : w = [] ∨ w.take 1 = [35]
        · rw [if_pos hc] at hst
          rw [prs_go hst] at hq
          have k := ih (i + 1) (by omega) p f B H (by omega) (by omega) hpf hw hf5 (by rw [hq]; rfl)
          cases w with
          | nil =>
            simp (maxSteps := 2000000) (disch := omega) [gd_in, gd_and, wr_i64, hzs.rules, hlt', hlt, hn, wi]
            exact k
          | cons a t =>
            have ha : a = 35 := by simpa using hc
            subst ha
            have p1 : (0 : Int) < (t.length : Int) + 1 := by omega
            simp (maxSteps := 2000000) (disch := omega) [gd_in, gd_and, wr_i64, hzs.rules, hlt', hlt, hn, wi, p1]
            exact k
        · rw [if_neg hc] at hst
          obtain ⟨a, t, rfl⟩ := List.exists_cons_of_ne_nil (fun h => hc (.inl h) : w ≠ [])
          have ha : ¬ (a : Int) = 35 := fun h => hc (.inr (by simp; omega))
          have p1 : (0 : Int) < (t.length : Int) + 1 := by omega
          have gc := fun H => cell_r (a :: t) (by omega) hwb H
          obtain ⟨r1, r2⟩ := cf_rel (a :: t)
          have fin : ∀ e, step cfM ((i : Int) + 1) (a :: t) f = .er e → RefR (prs cfM 1 L []) (.tu [.m (.nl 4), .m (.i .i64 ((i : Int) + 1)), .m (.i .i64 e)]) := fun e he => by
            rw [hq, prs_er he]
            rfl
          generalize hLq : prs cfM 1 L [] = Lq at *
          generalize cfM (a :: t) = m at *
          generalize cfC (a :: t) = q at *
          obtain ⟨c, ok⟩ := q
          obtain ⟨mc, me⟩ := m
          simp only at gc r1 r2 hst
          cases ok with
          | false =>
            have := r1 rfl
            subst this
            rw [if_pos (by simp)] at hst
            have k := fin _ hst
            simp (maxSteps := 2000000) (disch := omega) [gd_in, gd_and, wr_i64, hzs.rules, hlt', hlt, hn, wi, p1, ha, cl (gc _)]
            exact k
          | true =>
            obtain ⟨r2, r3, r4⟩ := r2 rfl
            have gx := fun H => in_r c.x H
            have gy := fun H => in_r c.y H
            have gp := fun H => put_r hw (by rw [hpf.length_eq]; omega) c H
            by_cases hix : inB c.x
            · rw [show decide (-1048576 ≤ c.x ∧ c.x ≤ 1048576) = true from decide_eq_true hix] at gx
              by_cases hiy : inB c.y
              · rw [show decide (-1048576 ≤ c.y ∧ c.y ≤ 1048576) = true from decide_eq_true hiy] at gy
                by_cases hs1 : c.s < 1
                · have := r3 hix hiy (by omega)
                  subst this
                  rw [if_pos (by simp)] at hst
                  have k := fin _ hst
                  simp (maxSteps := 2000000) (disch := omega) [gd_in, gd_and, wr_i64, hzs.rules, hlt', hlt, hn, wi, p1, ha, cl (gc _), cl (gx _), cl (gy _), gcall_cx, hs1]
                  exact k
                · by_cases hs8 : 8 ≤ c.s
                  · have := r3 hix hiy (by omega)
                    subst this
                    rw [if_pos (by simp)] at hst
                    have k := fin _ hst
                    simp (maxSteps := 2000000) (disch := omega) [gd_in, gd_and, wr_i64, hzs.rules, hlt', hlt, hn, wi, p1, ha, cl (gc _), cl (gx _), cl (gy _), gcall_cx, hs1, hs8]
                    exact k
                  · have := r4 hix hiy (by omega)
                    cases this
                    rw [if_neg (by simp)] at hst
                    have hany : p.any (sameAt c) = f.any fun d => decide (d.x = c.x ∧ d.y = c.y) := hpf.any_eq
                    rw [← hany] at hst
                    cases han : p.any (sameAt c) with
                    | true =>
                      rw [han, if_pos rfl] at hst
                      have k := fin _ hst
                      rw [han, if_pos rfl] at gp
                      simp (maxSteps := 2000000) (disch := omega) [gd_in, gd_and, wr_i64, hzs.rules, hlt', hlt, hn, wi, p1, ha, cl (gc _), cl (gx _), cl (gy _), gcall_cx, hs1, hs8, cl (gp _)]
                      exact k
                    | false =>
                      rw [han, if_neg (by simp)] at hst gp
                      have hil := insP_len p c
                      have hpl := hpf.length_eq
                      by_cases h5 : 5000 ≤ f.length
                      · rw [if_pos h5] at hst
                        have k := fin _ hst
                        have h5' : (5000 : Int) < (p.length : Int) + 1 := by omega
                        simp (maxSteps := 2000000) (disch := omega) [gd_in, gd_and, wr_i64, hzs.rules, hlt', hlt, hn, wi, p1, ha, cl (gc _), cl (gx _), cl (gy _), gcall_cx, hs1, hs8, cl (gp _), hil, h5']
                        exact k
                      · rw [if_neg h5] at hst
                        rw [prs_go hst] at hq
                        have h5' : ¬ (5000 : Int) < (p.length : Int) + 1 := by omega
                        have k := fun B H => ih (i + 1) (by omega) (insP p c) (f ++ [c]) B H (by omega) (by omega) ((insP_perm p c).trans ((hpf.cons c).trans (List.perm_append_singleton c f).symm)) (insP_pw hw han) (by simp; omega) (by rw [hq]; rfl)
                        rw [zP_ins] at k
                        simp (maxSteps := 2000000) (disch := omega) [gd_in, gd_and, wr_i64, hzs.rules, hlt', hlt, hn, wi, p1, ha, cl (gc _), cl (gx _), cl (gy _), gcall_cx, hs1, hs8, cl (gp _), hil, h5']
                        exact k _ _
              · rw [show decide (-1048576 ≤ c.y ∧ c.y ≤ 1048576) = false from decide_eq_false hiy] at gy
                have := r2 (fun h => hiy h.2)
                subst this
                rw [if_pos (by simp)] at hst
                have k := fin _ hst
                simp (maxSteps := 2000000) (disch := omega) [gd_in, gd_and, wr_i64, hzs.rules, hlt', hlt, hn, wi, p1, ha, cl (gc _), cl (gx _), cl (gy _), gcall_cx]
                exact k
            · rw [show decide (-1048576 ≤ c.x ∧ c.x ≤ 1048576) = false from decide_eq_false hix] at gx
              have := r2 (fun h => hix h.1)
              subst this
              rw [if_pos (by simp)] at hst
              have k := fin _ hst
              simp (maxSteps := 2000000) (disch := omega) [gd_in, gd_and, wr_i64, hzs.rules, hlt', hlt, hn, wi, p1, ha, cl (gc _), cl (gx _), gcall_cx]
              exact k
    · have hq0 : RefR (prs cfM 1 L []) (.tu [.m (.nl 4), .m (.i .i64 1), .m (.i .i64 15)]) := by
        rw [hd0, prs_er (e := 15) (by unfold step; rw [if_pos rfl, if_neg hh])]
        rfl
      generalize hLq : prs cfM 1 L [] = Lq at *
      simp (maxSteps := 2000000) (disch := omega) [gd_in, gd_and, wr_i64, h65, cl (gl _), hzs.rules, hLn, hLp, hL1, hn0, hh]
      exact hq0
  obtain ⟨v, H', h1, rfl, h2⟩ := key
  exact ⟨v, h2, h1⟩
end Go.Mx.Tryz
