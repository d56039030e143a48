/- Group of the reference: the least closed set of symmetries. -/
import Derived.Test.YtchacpbmpgfblaaDoorSz
import Derived.Test.YtchacpbmpgfblaaDoorStr
set_option linter.unusedSimpArgs false
set_option linter.unusedVariables false
set_option linter.unusedSectionVars false
set_option maxRecDepth 100000
namespace Go.Mx.Tryd
open Go.Proofs

def Bx (T : Nat → Bool) : List V := [.m (.b (T 0)), .m (.b (T 1)), .m (.b (T 2)), .m (.b (T 3)), .m (.b (T 4)), .m (.b (T 5)), .m (.b (T 6)), .m (.b (T 7))]
@[simp] theorem bx_len (T : Nat → Bool) : (Bx T).length = 8 := rfl
theorem bx_rd (T : Nat → Bool) {j : Nat} (h : j < 8) : takeN 1 ((Bx T).drop j) = some [.m (.b (T j))] := by
  match j, h with
  | 0, _ => rfl
  | 1, _ => rfl
  | 2, _ => rfl
  | 3, _ => rfl
  | 4, _ => rfl
  | 5, _ => rfl
  | 6, _ => rfl
  | 7, _ => rfl
def upT (T : Nat → Bool) (c : Nat) : Nat → Bool := fun j => T j || j == c
theorem bx_wr (T : Nat → Bool) {j : Nat} (h : j < 8) : (Bx T).take j ++ .m (.b true) :: (Bx T).drop (j + 1) = Bx (upT T j) := by
  match j, h with
  | 0, _ => simp [Bx, upT]
  | 1, _ => simp [Bx, upT]
  | 2, _ => simp [Bx, upT]
  | 3, _ => simp [Bx, upT]
  | 4, _ => simp [Bx, upT]
  | 5, _ => simp [Bx, upT]
  | 6, _ => simp [Bx, upT]
  | 7, _ => simp [Bx, upT]
theorem compT_lt {a b : Nat} (ha : a < 8) (hb : b < 8) : compT a b < 8 := by
  have : ∀ a : Fin 8, ∀ b : Fin 8, compT a.1 b.1 < 8 := by decide
  exact this ⟨a, ha⟩ ⟨b, hb⟩

def Clo (T : Nat → Bool) : Prop := ∀ a b, a < 8 → b < 8 → T a = true → T b = true → T (compT a b) = true
def Sub (Z T : Nat → Bool) : Prop := ∀ j, j < 8 → Z j = true → T j = true
def Mid (Z T : Nat → Bool) : Prop := Sub Z T ∧ ∀ U, Clo U → Sub Z U → Sub T U
def seedT (l : List Int) : Nat → Bool := fun j => j == 0 || l.any fun k => modS k == j
theorem mid_refl (Z : Nat → Bool) : Mid Z Z := ⟨fun _ _ h => h, fun _ _ h => h⟩
theorem mid_up {Z T : Nat → Bool} (h : Mid Z T) {a b : Nat} (ha : a < 8) (hb : b < 8) (h1 : T a = true) (h2 : T b = true) : Mid Z (upT T (compT a b)) := by
  refine ⟨fun j hj hz => by simp [upT, h.1 j hj hz], fun U hU hz j hj ht => ?_⟩
  simp only [upT, Bool.or_eq_true, beq_iff_eq] at ht
  rcases ht with ht | rfl
  · exact h.2 U hU hz j hj ht
  · exact hU a b ha hb (h.2 U hU hz a ha h1) (h.2 U hU hz b hb h2)
theorem mid_uniq {Z S T : Nat → Bool} (hs : Mid Z S) (hs' : Clo S) (ht : Mid Z T) (ht' : Clo T) {j : Nat} (hj : j < 8) : S j = T j := by
  have h1 := hs.2 T ht' ht.1 j hj
  have h2 := ht.2 S hs' hs.1 j hj
  cases e1 : S j <;> cases e2 : T j <;> simp_all
def cntT (T : Nat → Bool) : Nat := ((List.range 8).filter fun j => !T j).length
theorem cnt_up {T : Nat → Bool} {c : Nat} (hc : c < 8) (h : T c = false) : cntT (upT T c) < cntT T := by
  unfold cntT upT
  have key : ∀ (l : List Nat), c ∈ l → (l.filter fun j => !(T j || j == c)).length < (l.filter fun j => !T j).length := by
    intro l
    have mono : ∀ l : List Nat, (l.filter fun j => !(T j || j == c)).length ≤ (l.filter fun j => !T j).length := by
      intro l
      induction l with
      | nil => simp
      | cons x r ih =>
        simp only [List.filter_cons]
        by_cases hx : T x = true
        · simp [hx]; simpa using ih
        · by_cases hxc : x = c
          · simp [hx, hxc, h]; have := ih; simp at this; omega
          · simp [hx, hxc]; simpa using ih
    induction l with
    | nil => simp
    | cons x r ih =>
      intro hm
      have hm' := mono r
      simp only [List.filter_cons]
      by_cases hxc : x = c
      · subst hxc
        simp [h]; simp at hm'; omega
      · have hr : c ∈ r := by
          rcases List.mem_cons.1 hm with e | e
          · exact absurd e.symm hxc
          · exact e
        have := ih hr
        by_cases hx : T x = true
        · simp [hx]; simpa using this
        · simp [hx, hxc]; simpa using this
  exact key _ (List.mem_range.2 hc)
theorem seed_snoc (l : List Int) (k : Int) : seedT (l ++ [k]) = upT (seedT l) (modS k) := by
  funext j
  simp only [seedT, upT, List.any_append, List.any_cons, List.any_nil, Bool.or_false]
  generalize modS k = m
  have : (m == j) = (j == m) := by rw [Bool.eq_iff_iff, beq_iff_eq, beq_iff_eq, eq_comm]
  rw [Bool.or_assoc, this]
def memT (T : Nat → Bool) : List Nat := (List.range 8).filter T
def intsT (T : Nat → Bool) (n : Nat) : List Int := ((List.range n).filter T).map fun (k : Nat) => (k : Int)
theorem intsT_succ (T : Nat → Bool) (n : Nat) : intsT T (n + 1) = intsT T n ++ (if T n then [(n : Int)] else []) := by
  unfold intsT
  rw [List.range_succ, List.filter_append, List.map_append]
  cases h : T n <;> simp [h]
theorem intsT_len (T : Nat → Bool) (n : Nat) : (intsT T n).length ≤ n := by
  unfold intsT
  rw [List.length_map]
  exact Nat.le_trans (List.length_filter_le _ _) (by simp)
theorem intsT_congr {S T : Nat → Bool} (h : ∀ j, j < 8 → S j = T j) : intsT S 8 = intsT T 8 := by
  unfold intsT
  rw [List.filter_congr fun j hj => h j (List.mem_range.1 hj)]

theorem optN (k : Nat) (H : Hp) : ∀ m : List Int, optMap (fun e => optMap (view (k + 1) H) e) (rowsI m) = some (celI m)
  | [] => rfl
  | x :: r => by
    show Option.bind (some [I.i .i64 x]) _ = _
    simp only [Option.bind_some]
    have := optN k H r
    show Option.bind (optMap _ (rowsI r)) _ = _
    rw [this]
    rfl
theorem rowsN_sub (l : List Int) (a n : Nat) : ((rowsI l).drop a).take n = rowsI ((l.drop a).take n) := by
  unfold rowsI; rw [List.map_take, List.map_drop]
theorem elemsN {H : Hp} {r ver st len base : Nat} {lim fz : Bool} {l : List Int} (h : nth H r = some (.cs 3 1 (rowsI l) base fz)) (hb : base ≤ ver) : elems H (.sl r ver 1 st len lim) = some (rowsI ((l.drop st).take len)) := by
  show Option.bind (nth H r) _ = _
  rw [h]
  show gd (Nat.ble base ver && Nat.beq 1 1) (some (((rowsI l).drop st).take len)) = _
  rw [ble_dec, decide_eq_true hb, rowsN_sub]
  rfl
theorem viewN {H : Hp} {r ver st len base : Nat} {lim fz : Bool} {l : List Int} (h : nth H r = some (.cs 3 1 (rowsI l) base fz)) (hb : base ≤ ver) (k : Nat) : view (k + 2) H (.sl r ver 1 st len lim) = some (.sl (celI ((l.drop st).take len))) := by
  show Option.bind (elems H (.sl r ver 1 st len lim)) _ = _
  rw [elemsN h hb]
  show Option.bind (optMap _ (rowsI _)) _ = _
  rw [optN]
  rfl
def NumR (acc : List Int) (o : V) (H : Hp) : Prop := (acc = [] ∧ o = .m (.nl 4) ∧ H = []) ∨ (acc ≠ [] ∧ o = .sl 0 acc.length 1 0 acc.length false ∧ H = [.cs 3 1 (rowsI acc) 0 false])
theorem numR_push {acc : List Int} {o : V} {H : Hp} (h : NumR acc o H) (hl : acc.length ≤ 1000000) (x : Int) : ∃ o1 H1, (∀ B, appX ⟨B, H⟩ 3 1 8 o [[.m (.i .i64 x)]] = some (o1, ⟨B, H1⟩)) ∧ noFaV o1 = true ∧ NumR (acc ++ [x]) o1 H1 := by
  rcases h with ⟨rfl, rfl, rfl⟩ | ⟨hne, rfl, rfl⟩
  · exact ⟨_, _, fun B => rfl, rfl, .inr ⟨by simp, rfl, rfl⟩⟩
  · have ha := fun B => app_row (M := ⟨B, [.cs 3 1 (rowsI acc) 0 false]⟩) (r := 0) (bytes := 8) (xs := [[.m (.i .i64 x)]]) rfl (by simp) (by simp [rowsI_len]; omega) (by simp [rowsI])
    simp only [rowsI_len, List.length_cons, List.length_nil, Nat.zero_add, rowsI_snoc, List.set_cons_zero] at ha
    exact ⟨_, _, ha, rfl, .inr ⟨by simp, by simp, rfl⟩⟩
theorem numR_nf {acc : List Int} {o : V} {H : Hp} (h : NumR acc o H) : noFaV o = true := by
  rcases h with ⟨_, rfl, _⟩ | ⟨_, rfl, _⟩ <;> rfl
def zN (l : List Int) : I := if l = [] then .nl 4 else .sl (celI l)
theorem zN_sl (l : List Int) : IsSl (zN l) (celI l) := by
  unfold zN
  split
  · rename_i h; subst h; exact isSl_nil
  · exact isSl_sl _
theorem numR_view {acc : List Int} {o : V} {H : Hp} (h : NumR acc o H) : viewR H o = some (.m (zN acc)) := by
  rcases h with ⟨rfl, rfl, rfl⟩ | ⟨hne, rfl, rfl⟩
  · rfl
  · have := viewN (r := 0) (ver := acc.length) (st := 0) (len := acc.length) (lim := false) (base := 0) (fz := false) (l := acc) (H := [.cs 3 1 (rowsI acc) 0 false]) rfl (Nat.zero_le _) 18
    show (view 20 _ _).bind _ = _
    rw [this, List.drop_zero, List.take_of_length_le (Nat.le_refl _)]
    unfold zN
    rw [if_neg hne]
    rfl
def PassI (T0 T : Nat → Bool) (ch : Bool) (a b : Nat) : Prop := (ch = true ∧ cntT T < cntT T0) ∨ (ch = false ∧ T = T0 ∧ ∀ a' b', a' < 8 → b' < 8 → (a' < a ∨ (a' = a ∧ b' < b)) → T0 a' = true → T0 b' = true → T0 (compT a' b') = true)
theorem pass_0 (T : Nat → Bool) : PassI T T false 0 0 := .inr ⟨rfl, rfl, fun a b _ _ h => by omega⟩
theorem pass_row {T0 T : Nat → Bool} {ch : Bool} {a : Nat} (h : PassI T0 T ch a 8) : PassI T0 T ch (a + 1) 0 := by
  rcases h with h | ⟨h1, h2, h3⟩
  · exact .inl h
  · exact .inr ⟨h1, h2, fun a' b' ha hb hh => h3 a' b' ha hb (by omega)⟩
theorem pass_end {T0 T : Nat → Bool} (h : PassI T0 T false 8 0) : T = T0 ∧ Clo T := by
  rcases h with ⟨h, _⟩ | ⟨_, h2, h3⟩
  · cases h
  · exact ⟨h2, fun a b ha hb h1 h4 => by rw [h2] at *; exact h3 a b ha hb (.inl ha) h1 h4⟩
theorem pass_skip {T0 T : Nat → Bool} {ch : Bool} {a b : Nat} (h : PassI T0 T ch a b) (hs : T a = true → T b = true → T (compT a b) = true) : PassI T0 T ch a (b + 1) := by
  rcases h with h | ⟨h1, h2, h3⟩
  · exact .inl h
  · refine .inr ⟨h1, h2, fun a' b' ha hb hh => ?_⟩
    by_cases e : a' = a ∧ b' = b
    · obtain ⟨rfl, rfl⟩ := e
      rw [← h2]; exact hs
    · exact h3 a' b' ha hb (by omega)
theorem pass_new {T0 T : Nat → Bool} {ch : Bool} {a b a' b' c : Nat} (h : PassI T0 T ch a b) (hc : c < 8) (hn : T c = false) : PassI T0 (upT T c) true a' b' := by
  have := cnt_up hc hn
  rcases h with h | ⟨h1, h2, h3⟩
  · exact .inl ⟨rfl, by omega⟩
  · exact .inl ⟨rfl, by rw [← h2]; exact this⟩
def agT (T : Nat → Bool) : V := .m (.ag [.b (T 0), .b (T 1), .b (T 2), .b (T 3), .b (T 4), .b (T 5), .b (T 6), .b (T 7)])
theorem bx_all (T : Nat → Bool) : takeN 8 (Bx T) = some (Bx T) := rfl
theorem bx_am (T : Nat → Bool) : allM (Bx T) = some [.b (T 0), .b (T 1), .b (T 2), .b (T 3), .b (T 4), .b (T 5), .b (T 6), .b (T 7)] := rfl
theorem ag_bx (T : Nat → Bool) : aggC (agT T) = some (Bx T) := rfl
theorem setC_ag (s : St) (n : Nat) (T : Nat → Bool) : setC s (.v n) (agT T) = some { s with E := setE s.E n (agT T) } := rfl
theorem guni {f : Nat} {vs : List V} {H : Hp} {v : V} {H' : Hp} (h : Gives G f vs H v H') : Gives G f vs H v H' := h
set_option maxHeartbeats 4000000 in
theorem group_s {v : I} {l : List Int} (hv : IsSl v (celI l)) (hl : l.length ≤ 1000000) (H : Hp) :
    ∃ T, Mid (seedT l) T ∧ Clo T ∧ Gives G 34 [.m v] H (.m (zN (intsT T 8))) H := by
  have hr := hv.rules
  simp only [celI_len] at hr
  have key : ∃ x H', Gives G 34 [.m v] H x H' ∧ (H' = H ∧ ∃ T, Mid (seedT l) T ∧ Clo T ∧ x = .m (zN (intsT T 8))) := by
    refine gives_of_ret ?_
    refine ret_pur rfl rfl rfl rfl rfl ?_
    simp (maxSteps := 2000000) (disch := omega) [gd_in, gd_and, wr_i64, hr]
    refine (?key : ∀ (i : Nat) (T : Nat → Bool), i ≤ l.length → T = seedT (l.take i) → Run G c34_B0 (S34_0 (.fa 3 0) (.m v) (.m (.i .i64 l.length)) (.m (.i .i64 (i : Int))) [(3, Bx T)] []) _) 0 (seedT []) (Nat.zero_le _) rfl
    refine indM (fun i : Nat => l.length - i) fun i ih T hi hT => ?_
    unfold c34_B0
    cases hx : l[i]? with
    | some c =>
      have hlt := (get_drop hx).1
      have hlt' : (i : Int) < l.length := by omega
      have hn : nth (celI l) i = some [.i .i64 c] := by rw [nth_get]; simp [celI, hx]
      have wi : wr .i64 ((i : Int) + 1) = (i : Int) + 1 := wr_i64 (by omega) (by omega)
      have htk : l.take (i + 1) = l.take i ++ [c] := take_succ_get hx
      have hm := modS_eq c
      have hml := modS_lt c
      have hm0 : (0 : Int) ≤ (modS c : Int) := by omega
      have hm8 : (modS c : Int) < 8 := by omega
      have hm9 : modS c + 1 ≤ 8 := by omega
      have hw := bx_wr T hml
      simp (maxSteps := 2000000) (disch := omega) [gd_in, gd_and, wr_i64, hr, celI_len, hlt, hlt', hn, wi, bx_and7, hm, hm0, hm8, hm9, hw]
      exact ih (i + 1) (by omega) (upT T (modS c)) (by omega) (by rw [htk, seed_snoc, hT])
    | none =>
      have : i = l.length := by have := List.getElem?_eq_none_iff.1 hx; omega
      subst this
      rw [List.take_length] at hT
      clear ih hx
      simp (maxSteps := 2000000) (disch := omega) [gd_in, gd_and, wr_i64, hr, celI_len]
      refine (?key2 : ∀ (p : (Nat → Bool) × Bool), Mid (seedT l) p.1 → (p.2 = false → Clo p.1) → Run G c34_B3 (S34_3 (.fa 3 0) (.m (.b p.2)) [(3, Bx p.1)] []) _) (T, true) (by rw [hT]; exact mid_refl _) (fun h => by cases h)
      clear hT T hi
      refine indM (fun p : (Nat → Bool) × Bool => 2 * cntT p.1 + p.2.toNat) fun p ih hmid hcl => ?_
      obtain ⟨T0, c0⟩ := p
      unfold c34_B3
      cases c0 with
      | true =>
        simp (maxSteps := 2000000) (disch := omega) [gd_in, gd_and, wr_i64, hr, celI_len]
        refine (?key3 : ∀ (a : Nat) (T : Nat → Bool) (ch : Bool), a ≤ 8 → Mid (seedT l) T → PassI T0 T ch a 0 → Run G c34_B2 (S34_2 (.fa 3 0) (.m (.b ch)) (.m (.i .i64 (a : Int))) [(3, Bx T)] []) _) 0 T0 false (by omega) hmid (pass_0 _)
        refine indM (fun a : Nat => 8 - a) fun a ih2 T ch ha hm hp => ?_
        unfold c34_B2
        by_cases ha8 : a < 8
        · have ha8' : (a : Int) < 8 := by omega
          have ha0 : (0 : Int) ≤ a := by omega
          have wa : wr .i64 ((a : Int) + 1) = (a : Int) + 1 := wr_i64 (by omega) (by omega)
          simp (maxSteps := 2000000) (disch := omega) [gd_in, gd_and, wr_i64, ha8, ha8', ha0, wa]
          refine (?key4 : ∀ (b : Nat) (T : Nat → Bool) (ch : Bool), b ≤ 8 → Mid (seedT l) T → PassI T0 T ch a b → Run G c34_B1 (S34_1 (.fa 3 0) (.m (.b ch)) (.m (.i .i64 (a : Int))) (.m (.i .i64 (a : Int))) (.m (.i .i64 (b : Int))) [(3, Bx T)] []) _) 0 T ch (by omega) hm hp
          clear hm hp T ch
          refine indM (fun b : Nat => 8 - b) fun b ih3 T ch hb hm hp => ?_
          unfold c34_B1
          by_cases hb8 : b < 8
          · have hb8' : (b : Int) < 8 := by omega
            have hb0 : (0 : Int) ≤ b := by omega
            have wb : wr .i64 ((b : Int) + 1) = (b : Int) + 1 := wr_i64 (by omega) (by omega)
            have gc := fun H => compose_s a b ha8 hb8 H
            have hc := compT_lt ha8 hb8
            have hc8 : ((compT a b : Nat) : Int) < 8 := by omega
            have hc0 : (0 : Int) ≤ ((compT a b : Nat) : Int) := by omega
            have hc9 : compT a b + 1 ≤ 8 := by omega
            have ra := bx_rd T ha8
            have rb := bx_rd T hb8
            have rc := bx_rd T hc
            have hw := bx_wr T hc
            cases hA : T a with
            | false =>
              simp (maxSteps := 2000000) (disch := omega) [gd_in, gd_and, wr_i64, hb8, hb8', hb0, wb, ha8, ha8', ha0, cl (gc _), hc, hc8, hc0, hc9, ra, rb, rc, hA]
              exact ih3 (b + 1) (by omega) T ch (by omega) hm (pass_skip hp fun h => by rw [hA] at h; cases h)
            | true =>
              cases hB : T b with
              | false =>
                simp (maxSteps := 2000000) (disch := omega) [gd_in, gd_and, wr_i64, hb8, hb8', hb0, wb, ha8, ha8', ha0, cl (gc _), hc, hc8, hc0, hc9, ra, rb, rc, hA, hB]
                exact ih3 (b + 1) (by omega) T ch (by omega) hm (pass_skip hp fun _ h => by rw [hB] at h; cases h)
              | true =>
                cases hC : T (compT a b) with
                | true =>
                  simp (maxSteps := 2000000) (disch := omega) [gd_in, gd_and, wr_i64, hb8, hb8', hb0, wb, ha8, ha8', ha0, cl (gc _), hc, hc8, hc0, hc9, ra, rb, rc, hA, hB, hC]
                  exact ih3 (b + 1) (by omega) T ch (by omega) hm (pass_skip hp fun _ _ => hC)
                | false =>
                  simp (maxSteps := 2000000) (disch := omega) [gd_in, gd_and, wr_i64, hb8, hb8', hb0, wb, ha8, ha8', ha0, cl (gc _), hc, hc8, hc0, hc9, ra, rb, rc, hA, hB, hC, hw]
                  exact ih3 (b + 1) (by omega) (upT T (compT a b)) true (by omega) (mid_up hm ha8 hb8 hA hB) (pass_new hp hc hC)
          · have : b = 8 := by omega
            subst this
            simp (maxSteps := 2000000) (disch := omega) [gd_in, gd_and, wr_i64, wa]
            exact ih2 (a + 1) (by omega) T ch (by omega) hm (pass_row hp)
        · have : a = 8 := by omega
          subst this
          simp (maxSteps := 2000000) (disch := omega) [gd_in, gd_and, wr_i64, ]
          cases ch with
          | true =>
            refine ih (T, true) ?_ hm (fun h => by cases h)
            rcases hp with ⟨_, h⟩ | ⟨h, _⟩
            · show 2 * cntT T + 1 < 2 * cntT T0 + 1; omega
            · cases h
          | false =>
            obtain ⟨rfl, hc⟩ := pass_end hp
            refine ih (T, false) ?_ hm (fun _ => hc)
            show 2 * cntT T + 0 < 2 * cntT T + 1; omega
      | false =>
        have hclo := hcl rfl
        replace hmid : Mid (seedT l) T0 := hmid
        clear ih hcl
        have e8 := bx_all T0
        have eg := bx_am T0
        simp (maxSteps := 2000000) (disch := omega) [gd_in, gd_and, wr_i64, e8, eg, setC_ag]
        refine (?key5 : ∀ (i : Nat) (o : V) (B : List (Nat × List V)) (H1 : Hp), i ≤ 8 → NumR (intsT T0 i) o H1 → Run G c34_B4 (S34_4 o (agT T0) (.m (.i .i64 (i : Int))) B H1) _) 0 _ _ _ (by omega) (.inl ⟨rfl, rfl, rfl⟩)
        refine indM (fun i : Nat => 8 - i) fun i ih o B H1 hi ho => ?_
        have hnf := numR_nf ho
        have hln := intsT_len T0 i
        unfold c34_B4
        by_cases hi8 : i < 8
        · have hi8' : (i : Int) < 8 := by omega
          have hi0 : (0 : Int) ≤ i := by omega
          have wi : wr .i64 ((i : Int) + 1) = (i : Int) + 1 := wr_i64 (by omega) (by omega)
          have ra := bx_rd T0 hi8
          have es := intsT_succ T0 i
          cases hT : T0 i with
          | false =>
            rw [hT] at es
            simp only [Bool.false_eq_true, if_false, List.append_nil] at es
            simp (maxSteps := 2000000) (disch := omega) [gd_in, gd_and, wr_i64, hi8, hi8', hi0, wi, ra, ag_bx, hT]
            exact ih (i + 1) (by omega) _ _ _ (by omega) (by rw [es]; exact ho)
          | true =>
            rw [hT] at es
            simp only [if_true] at es
            obtain ⟨o1, H2, ha, hn1, ho1⟩ := numR_push ho (by omega) (i : Int)
            rw [← es] at ho1
            simp (maxSteps := 2000000) (disch := omega) [gd_in, gd_and, wr_i64, hi8, hi8', hi0, wi, ra, ag_bx, hT, ha, setC_v hn1]
            exact ih (i + 1) (by omega) _ _ _ (by omega) ho1
        · have : i = 8 := by omega
          subst this
          have hv2 := numR_view ho
          simp (maxSteps := 2000000) (disch := omega) [gd_in, gd_and, wr_i64, setC_v hnf, hv2]
          exact ⟨hnf, T0, hmid, hclo, rfl⟩
  obtain ⟨x, H', h1, rfl, T, h2, h3, rfl⟩ := key
  exact ⟨T, h2, h3, h1⟩
end Go.Mx.Tryd
namespace Go.Mx.Tryd
open Go.Proofs

theorem has_r {v : I} {l : List Int} (hv : IsSl v (celI l)) (hl : l.length ≤ 1000000) (c : Int) (H : Hp) : Gives G 36 [.m v, .m (.i .i64 c)] H (.m (.b (decide (c ∈ l)))) H := by
  refine gives_pur rfl rfl rfl rfl rfl ?_
  have hr := hv.rules
  simp only [celI_len] at hr
  simp (maxSteps := 2000000) (disch := omega) [gd_in, gd_and, wr_i64, hr]
  refine (?key : ∀ (i : Nat) (B : List (Nat × List V)), i ≤ l.length → c ∉ l.take i → Run G c36_B0 (S36_0 (.m v) (.m (.i .i64 c)) (.m (.i .i64 (i : Int))) B []) _) 0 _ (Nat.zero_le _) (by simp)
  refine indM (fun i : Nat => l.length - i) fun i ih B hi hT => ?_
  unfold c36_B0
  cases hx : l[i]? with
  | some x =>
    have hlt := (get_drop hx).1
    have hlt' : (i : Int) < l.length := by omega
    have hn : nth (celI l) i = some [.i .i64 x] := by rw [nth_get]; simp [celI, hx]
    have wi : wr .i64 ((i : Int) + 1) = (i : Int) + 1 := wr_i64 (by omega) (by omega)
    have htk : l.take (i + 1) = l.take i ++ [x] := take_succ_get hx
    by_cases e : x = c
    · have hm : c ∈ l := by rw [← e]; exact List.mem_of_getElem? hx
      simp (maxSteps := 2000000) (disch := omega) [gd_in, gd_and, wr_i64, hr, hlt, hlt', hn, wi, e, hm]
    · simp (maxSteps := 2000000) (disch := omega) [gd_in, gd_and, wr_i64, hr, hlt, hlt', hn, wi, e]
      refine ih (i + 1) (by omega) _ (by omega) ?_
      rw [htk, List.mem_append, List.mem_singleton]
      exact fun h => h.elim hT fun h => e h.symm
  | none =>
    have : i = l.length := by have := List.getElem?_eq_none_iff.1 hx; omega
    subst this
    rw [List.take_length] at hT
    simp (maxSteps := 2000000) (disch := omega) [gd_in, gd_and, wr_i64, hr, hT]

def InP (m : List Int) (o : V) (P : Hp) : Prop := (o = .ls (celI m) ∧ P = []) ∨ (m ≠ [] ∧ o = .sl 0 m.length 1 0 m.length false ∧ P = [.cs 3 1 (rowsI m) 0 false])
theorem inP_nf {m : List Int} {o : V} {P : Hp} (h : InP m o P) : noFaV o = true ∧ pureX (.len false) [o] = some (.m (.i .i64 m.length)) := by
  rcases h with ⟨rfl, rfl⟩ | ⟨_, rfl, rfl⟩
  · exact ⟨rfl, by show some (V.m (.i .i64 ((celI m).length : Nat))) = _; rw [celI_len]⟩
  · exact ⟨rfl, rfl⟩
theorem inP_has {m : List Int} {o : V} {P : Hp} (h : InP m o P) (hl : m.length ≤ 1000000) (X : Hp) (c : Int) : Gives G 36 [o, .m (.i .i64 c)] (P ++ X) (.m (.b (decide (c ∈ m)))) (P ++ X) := by
  rcases h with ⟨rfl, rfl⟩ | ⟨_, rfl, rfl⟩
  · exact gives_view (vs := [.ls (celI m), .m (.i .i64 c)]) (is := [.sl (celI m), .i .i64 c]) rfl rfl (has_r (isSl_sl _) hl c []) rfl (.inl ⟨rfl, rfl⟩)
  · refine gives_view (is := [.sl (celI m), .i .i64 c]) rfl rfl (has_r (isSl_sl _) hl c []) ?_ (.inr ⟨by simp [refs, ref1], rfl⟩)
    have := viewN (r := 0) (ver := m.length) (st := 0) (len := m.length) (lim := false) (base := 0) (fz := false) (l := m) (H := [.cs 3 1 (rowsI m) 0 false] ++ X) rfl (Nat.zero_le _) 18
    rw [List.drop_zero, List.take_of_length_le (Nat.le_refl _)] at this
    show ((view 20 _ _).bind _) = _
    rw [this]
    rfl
theorem inP_rd {m : List Int} {o : V} {P : Hp} (h : InP m o P) (X : Hp) {i : Nat} {x : Int} (hx : m[i]? = some x) (hl : m.length ≤ 1000000) : ∃ p, pureX (.ixa 1) [o, .m (.i .i64 (i : Int))] = some p ∧ ∀ B, readX ⟨B, P ++ X⟩ (.ld false 1) [p] = some (.m (.i .i64 x)) := by
  have hlt := (get_drop hx).1
  rcases h with ⟨rfl, rfl⟩ | ⟨_, rfl, rfl⟩
  · have hn : nth (celI m) i = some [.i .i64 x] := by rw [nth_get]; simp [celI, hx]
    refine ⟨.m (.pt [.i .i64 x]), ?_, fun B => rfl⟩
    simp (maxSteps := 2000000) (disch := omega) [gd_in, gd_and, wr_i64, hn, celI_len, hlt, show (i : Int) < m.length from by omega]
  · have hn : nth (rowsI m) i = some [.m (.i .i64 x)] := by rw [nth_get]; simp [rowsI, hx]
    refine ⟨.pt 0 m.length i 0, ?_, fun B => ?_⟩
    · simp (maxSteps := 2000000) (disch := omega) [gd_in, gd_and, wr_i64, hlt, show (i : Int) < m.length from by omega]
    · simp (maxSteps := 2000000) (disch := omega) [gd_in, gd_and, wr_i64, hn]
theorem inP_push {m : List Int} {o : V} {P : Hp} (h : InP m o P) (hl : m.length ≤ 1000000) (x : Int) : ∃ o1 P1, (∀ B, appX ⟨B, P⟩ 3 1 8 o [[.m (.i .i64 x)]] = some (o1, ⟨B, P1⟩)) ∧ noFaV o1 = true ∧ InP (m ++ [x]) o1 P1 := by
  rcases h with ⟨rfl, rfl⟩ | ⟨hne, rfl, rfl⟩
  · have e : immS (celI m) ++ [[V.m (.i .i64 x)]] = rowsI (m ++ [x]) := by simp [immS, celI, rowsI]
    refine ⟨.sl 0 (m ++ [x]).length 1 0 (m ++ [x]).length false, [.cs 3 1 (rowsI (m ++ [x])) 0 false], fun B => ?_, rfl, .inr ⟨by simp, rfl, rfl⟩⟩
    show newRow ⟨B, []⟩ 3 1 8 (immS (celI m) ++ [[V.m (.i .i64 x)]]) = _
    rw [e]
    have h1 : Nat.ble ((rowsI (m ++ [x])).length * 8) 140737488355328 = true := by
      rw [ble_dec]
      refine decide_eq_true ?_
      rw [rowsI_len, List.length_append, List.length_singleton]
      omega
    have h2 : ((rowsI (m ++ [x])).all fun e => Nat.beq e.length 1 && e.all oneV) = true := by
      unfold rowsI
      rw [List.all_map, List.all_eq_true]
      exact fun _ _ => rfl
    unfold newRow
    rw [h1, h2, rowsI_len]
    rfl
  · have ha := fun B => app_row (M := ⟨B, [.cs 3 1 (rowsI m) 0 false]⟩) (r := 0) (bytes := 8) (xs := [[.m (.i .i64 x)]]) rfl (by simp) (by simp [rowsI_len]; omega) (by simp [rowsI])
    simp only [rowsI_len, List.length_cons, List.length_nil, Nat.zero_add, rowsI_snoc, List.set_cons_zero] at ha
    exact ⟨_, _, ha, rfl, .inr ⟨by simp, by simp, rfl⟩⟩

def setT (acc : List Nat) : Nat → Bool := fun j => decide (j ∈ acc)
def intA (acc : List Nat) : List Int := acc.map fun (k : Nat) => (k : Int)
@[simp] theorem intA_len (acc : List Nat) : (intA acc).length = acc.length := by simp [intA]
theorem intA_get {acc : List Nat} {i c : Nat} (h : acc[i]? = some c) : (intA acc)[i]? = some (c : Int) := by simp [intA, h]
theorem intA_mem (acc : List Nat) (c : Nat) : decide ((c : Int) ∈ intA acc) = setT acc c := by
  unfold setT intA
  congr 1
  rw [List.mem_map]
  refine propext ⟨fun ⟨a, h1, h2⟩ => by have : a = c := by omega
                                        rw [← this]; exact h1, fun h => ⟨c, h, rfl⟩⟩
theorem intA_snoc (acc : List Nat) (c : Nat) : intA acc ++ [(c : Int)] = intA (acc ++ [c]) := by simp [intA]
theorem setT_snoc (acc : List Nat) (c : Nat) : setT (acc ++ [c]) = upT (setT acc) c := by
  funext j
  unfold setT upT
  rw [Bool.eq_iff_iff]
  simp
def Acc (acc : List Nat) : Prop := (∀ c, c ∈ acc → c < 8) ∧ acc.length + cntT (setT acc) ≤ 8
theorem acc_0 : Acc [0] := ⟨by simp, by decide⟩
theorem acc_snoc {acc : List Nat} (h : Acc acc) {c : Nat} (hc : c < 8) (hn : setT acc c = false) : Acc (acc ++ [c]) := by
  refine ⟨fun d hd => ?_, ?_⟩
  · rcases List.mem_append.1 hd with hd | hd
    · exact h.1 d hd
    · rw [List.mem_singleton.1 hd]; exact hc
  · have := cnt_up hc hn
    have h2 := h.2
    rw [setT_snoc, List.length_append, List.length_singleton]
    omega
theorem seed_0 : seedT [] = setT [0] := by
  funext j
  unfold seedT setT
  rw [Bool.eq_iff_iff]
  simp
theorem upT_same {T : Nat → Bool} {c : Nat} (h : T c = true) : upT T c = T := by
  funext j
  unfold upT
  by_cases e : j = c
  · subst e; simp [h]
  · simp [e]
theorem clo_of {acc : List Nat} (ha : Acc acc) (h : ∀ (i k a b : Nat), acc[i]? = some a → acc[k]? = some b → setT acc (compT a b) = true) : Clo (setT acc) := fun a b _ _ h1 h2 => by
  unfold setT at h1 h2
  obtain ⟨i, hi⟩ := List.mem_iff_getElem?.1 (of_decide_eq_true h1)
  obtain ⟨k, hk⟩ := List.mem_iff_getElem?.1 (of_decide_eq_true h2)
  exact h i k a b hi hk
def NumP (P : Hp) (acc : List Int) (o : V) (H : Hp) : Prop := (acc = [] ∧ o = .m (.nl 4) ∧ H = P) ∨ (acc ≠ [] ∧ o = .sl P.length acc.length 1 0 acc.length false ∧ H = P ++ [.cs 3 1 (rowsI acc) 0 false])
theorem numP_push {P : Hp} {acc : List Int} {o : V} {H : Hp} (h : NumP P acc o H) (hl : acc.length ≤ 1000000) (x : Int) : ∃ o1 H1, (∀ B, appX ⟨B, H⟩ 3 1 8 o [[.m (.i .i64 x)]] = some (o1, ⟨B, H1⟩)) ∧ noFaV o1 = true ∧ NumP P (acc ++ [x]) o1 H1 := by
  rcases h with ⟨rfl, rfl, rfl⟩ | ⟨hne, rfl, rfl⟩
  · exact ⟨_, _, fun B => rfl, rfl, .inr ⟨by simp, rfl, rfl⟩⟩
  · have e0 : nth (P ++ [Row.cs 3 1 (rowsI acc) 0 false]) P.length = some (.cs 3 1 (rowsI acc) 0 false) := nl_end P _ 0
    have ha := fun B => app_row (M := ⟨B, P ++ [.cs 3 1 (rowsI acc) 0 false]⟩) (r := P.length) (bytes := 8) (xs := [[.m (.i .i64 x)]]) e0 (by simp) (by simp [rowsI_len]; omega) (by simp [rowsI])
    simp only [rowsI_len, List.length_cons, List.length_nil, Nat.zero_add, rowsI_snoc, List.set_append_right _ _ (Nat.le_refl _), Nat.sub_self, List.set_cons_zero] at ha
    exact ⟨_, _, ha, rfl, .inr ⟨by simp, by simp, rfl⟩⟩
theorem numP_nf {P : Hp} {acc : List Int} {o : V} {H : Hp} (h : NumP P acc o H) : noFaV o = true ∧ ∃ X, H = P ++ X := by
  rcases h with ⟨_, rfl, rfl⟩ | ⟨_, rfl, rfl⟩
  · exact ⟨rfl, [], by simp⟩
  · exact ⟨rfl, _, rfl⟩
theorem numP_view {P : Hp} {acc : List Int} {o : V} {H : Hp} (h : NumP P acc o H) : viewR H o = some (.m (zN acc)) := by
  rcases h with ⟨rfl, rfl, rfl⟩ | ⟨hne, rfl, rfl⟩
  · rfl
  · have e0 : nth (P ++ [Row.cs 3 1 (rowsI acc) 0 false]) P.length = some (.cs 3 1 (rowsI acc) 0 false) := nl_end P _ 0
    have := viewN (ver := acc.length) (st := 0) (len := acc.length) (lim := false) e0 (Nat.zero_le _) 18
    show (view 20 _ _).bind _ = _
    rw [this, List.drop_zero, List.take_of_length_le (Nat.le_refl _)]
    unfold zN
    rw [if_neg hne]
    rfl
theorem group_r {v : I} {l : List Int} (hv : IsSl v (celI l)) (hl : l.length ≤ 1000000) (hk : ∀ k, k ∈ l → -9223372036854775808 ≤ k ∧ k ≤ 9223372036854775807) (H : Hp) :
    ∃ T, Mid (seedT l) T ∧ Clo T ∧ Gives G 15 [.m v] H (.m (zN (intsT T 8))) H := by
  have hr := hv.rules
  simp only [celI_len] at hr
  have key : ∃ x H', Gives G 15 [.m v] H x H' ∧ (H' = H ∧ ∃ T, Mid (seedT l) T ∧ Clo T ∧ x = .m (zN (intsT T 8))) := by
    refine gives_of_ret ?_
    refine ret_pur rfl rfl rfl rfl rfl ?_
    simp (maxSteps := 2000000) (disch := omega) [gd_in, gd_and, wr_i64, hr]
    refine (?key : ∀ (i : Nat) (acc : List Nat) (o : V) (B : List (Nat × List V)) (P : Hp), i ≤ l.length → Acc acc → setT acc = seedT (l.take i) → InP (intA acc) o P → Run G c15_B0 (S15_0 (.m v) o (.m (.i .i64 (i : Int))) B P) _) 0 [0] (.ls [[.i .i64 0]]) [] [] (Nat.zero_le _) acc_0 seed_0.symm (.inl ⟨rfl, rfl⟩)
    refine indM (fun i : Nat => l.length - i) fun i ih acc o B P hi ha hT ho => ?_
    obtain ⟨hnf, hle⟩ := inP_nf ho
    have hal : acc.length ≤ 8 := by have := ha.2; omega
    unfold c15_B0
    cases hx : l[i]? with
    | some c =>
      have hlt := (get_drop hx).1
      have hlt' : (i : Int) < l.length := by omega
      have hn : nth (celI l) i = some [.i .i64 c] := by rw [nth_get]; simp [celI, hx]
      have wi : wr .i64 ((i : Int) + 1) = (i : Int) + 1 := wr_i64 (by omega) (by omega)
      have htk : l.take (i + 1) = l.take i ++ [c] := take_succ_get hx
      have gm := fun H => mod_r c (hk c (List.mem_of_getElem? hx)) H
      have hml := modS_lt c
      have gh := inP_has ho (by simp; omega) [] (modS c : Int)
      rw [intA_mem, List.append_nil] at gh
      cases hc : setT acc (modS c) with
      | true =>
        rw [hc] at gh
        simp (maxSteps := 2000000) (disch := omega) [gd_in, gd_and, wr_i64, hr, hlt, hlt', hn, wi, hle, cl (gm _), cl gh]
        exact ih (i + 1) (by omega) acc _ _ _ (by omega) ha (by rw [htk, seed_snoc, ← hT, upT_same hc]) ho
      | false =>
        rw [hc] at gh
        obtain ⟨o1, P1, hap, hn1, ho1⟩ := inP_push ho (by simp; omega) (modS c : Int)
        rw [intA_snoc] at ho1
        simp (maxSteps := 2000000) (disch := omega) [gd_in, gd_and, wr_i64, hr, hlt, hlt', hn, wi, hle, cl (gm _), cl gh, hap, setC_v hn1]
        exact ih (i + 1) (by omega) (acc ++ [modS c]) _ _ _ (by omega) (acc_snoc ha hml hc) (by rw [htk, seed_snoc, ← hT, setT_snoc]) ho1
    | none =>
      have : i = l.length := by have := List.getElem?_eq_none_iff.1 hx; omega
      subst this
      rw [List.take_length] at hT
      clear ih hx
      simp (maxSteps := 2000000) (disch := omega) [gd_in, gd_and, wr_i64, hr]
      refine (?key2 : ∀ (p : List Nat × Bool) (o : V) (B : List (Nat × List V)) (P : Hp), Acc p.1 → Mid (seedT l) (setT p.1) → (p.2 = false → Clo (setT p.1)) → InP (intA p.1) o P → Run G c15_B3 (S15_3 o (.m (.b p.2)) B P) _) (acc, true) o _ _ ha (by rw [← hT]; exact mid_refl _) (fun h => by cases h) ho
      clear hT ho ha hnf hle hal hi o B P acc
      refine indM (fun p : List Nat × Bool => 2 * cntT (setT p.1) + p.2.toNat) fun p ih o B P ha hmid hcl ho => ?_
      obtain ⟨acc, c0⟩ := p
      obtain ⟨hnf, hle⟩ := inP_nf ho
      replace ha : Acc acc := ha
      replace ho : InP (intA acc) o P := ho
      replace hmid : Mid (seedT l) (setT acc) := hmid
      replace hle : pureX (.len false) [o] = some (.m (.i .i64 acc.length)) := by rw [hle]; simp
      have hal : acc.length ≤ 8 := by have := ha.2; omega
      unfold c15_B3
      cases c0 with
      | true =>
        simp (maxSteps := 2000000) (disch := omega) [gd_in, gd_and, wr_i64, ]
        refine (?key3 : ∀ (i : Nat) (B : List (Nat × List V)), i ≤ acc.length → (∀ (i' k' a b : Nat), i' < i → acc[i']? = some a → acc[k']? = some b → setT acc (compT a b) = true) → Run G c15_B2 (S15_2 o (.m (.b false)) (.m (.i .i64 (i : Int))) B P) _) 0 _ (Nat.zero_le _) (fun i' k' a b h => by omega)
        refine indM (fun i : Nat => acc.length - i) fun i ih2 B hi hp => ?_
        unfold c15_B2
        cases hx : acc[i]? with
        | some a =>
          have hlt := (get_drop hx).1
          have hlt' : (i : Int) < acc.length := by omega
          have wi : wr .i64 ((i : Int) + 1) = (i : Int) + 1 := wr_i64 (by omega) (by omega)
          have ha8 := ha.1 a (List.mem_of_getElem? hx)
          obtain ⟨pa, ra, rda⟩ := inP_rd ho [] (intA_get hx) (by simp; omega)
          simp only [List.append_nil] at rda
          simp (maxSteps := 2000000) (disch := omega) [gd_in, gd_and, wr_i64, hle, hlt', hlt, wi]
          refine (?key4 : ∀ (k : Nat) (B : List (Nat × List V)), k ≤ acc.length → (∀ (k' b : Nat), k' < k → acc[k']? = some b → setT acc (compT a b) = true) → Run G c15_B1 (S15_1 o (.m (.b false)) (.m (.i .i64 (i : Int))) (.m (.i .i64 (k : Int))) B P) _) 0 _ (Nat.zero_le _) (fun k' b h => by omega)
          refine indM (fun k : Nat => acc.length - k) fun k ih3 B hk2 hq => ?_
          unfold c15_B1
          cases hy : acc[k]? with
          | some b =>
            have hlk := (get_drop hy).1
            have hlk' : (k : Int) < acc.length := by omega
            have wk : wr .i64 ((k : Int) + 1) = (k : Int) + 1 := wr_i64 (by omega) (by omega)
            have hb8 := ha.1 b (List.mem_of_getElem? hy)
            obtain ⟨pb, rb, rdb⟩ := inP_rd ho [] (intA_get hy) (by simp; omega)
            simp only [List.append_nil] at rdb
            have gc := fun H => compose_r a b ha8 hb8 H
            have hc8 := compT_lt ha8 hb8
            have gh := inP_has ho (by simp; omega) [] (compT a b : Int)
            rw [intA_mem, List.append_nil] at gh
            cases hc : setT acc (compT a b) with
            | true =>
              rw [hc] at gh
              simp (maxSteps := 2000000) (disch := omega) [gd_in, gd_and, wr_i64, hle, hlk', hlk, wk, ra, rda, rb, rdb, cl (gc _), cl gh]
              refine ih3 (k + 1) (by omega) _ (by omega) fun k' b' hk' hb' => ?_
              by_cases e : k' = k
              · subst e
                rw [hy] at hb'
                cases hb'
                exact hc
              · exact hq k' b' (by omega) hb'
            | false =>
              rw [hc] at gh
              obtain ⟨o1, P1, hap, hn1, ho1⟩ := inP_push ho (by simp; omega) (compT a b : Int)
              rw [intA_snoc] at ho1
              obtain ⟨_, hle1⟩ := inP_nf ho1
              simp (maxSteps := 2000000) (disch := omega) [gd_in, gd_and, wr_i64, hle, hlk', hlk, wk, ra, rda, rb, rdb, cl (gc _), cl gh, hap, setC_v hn1]
              unfold c15_B1
              have hp1 : acc.length + 1 ≤ 9 := by omega
              by_cases hk3 : (k : Int) + 1 < acc.length + 1
              · by_cases hi3 : (i : Int) + 1 < acc.length + 1
                · simp (maxSteps := 2000000) (disch := omega) [gd_in, gd_and, wr_i64, hle1, hk3, wi]
                  unfold c15_B2
                  simp (maxSteps := 2000000) (disch := omega) [gd_in, gd_and, wr_i64, hle1, hi3]
                  refine ih (acc ++ [compT a b], true) ?_ _ _ _ (acc_snoc ha hc8 hc) ?_ (fun h => by cases h) ho1
                  · have := cnt_up hc8 hc
                    show 2 * cntT (setT (acc ++ [compT a b])) + 1 < 2 * cntT (setT acc) + 1
                    rw [setT_snoc]; omega
                  · show Mid _ (setT (acc ++ [compT a b]))
                    rw [setT_snoc]
                    have t1 : setT acc a = true := decide_eq_true (List.mem_of_getElem? hx)
                    have t2 : setT acc b = true := decide_eq_true (List.mem_of_getElem? hy)
                    exact mid_up hmid ha8 hb8 t1 t2
                · omega
              · omega
          | none =>
            have : k = acc.length := by have := List.getElem?_eq_none_iff.1 hy; omega
            subst this
            simp (maxSteps := 2000000) (disch := omega) [gd_in, gd_and, wr_i64, hle, wi]
            refine ih2 (i + 1) (by omega) _ (by omega) fun i' k' a' b' hi' ha' hb' => ?_
            by_cases e : i' = i
            · subst e
              rw [hx] at ha'
              cases ha'
              exact hq k' b' (get_drop hb').1 hb'
            · exact hp i' k' a' b' (by omega) ha' hb'
        | none =>
          have : i = acc.length := by have := List.getElem?_eq_none_iff.1 hx; omega
          subst this
          simp (maxSteps := 2000000) (disch := omega) [gd_in, gd_and, wr_i64, hle]
          refine ih (acc, false) ?_ _ _ _ ha hmid (fun _ => clo_of ha fun i k a b h1 h2 => hp i k a b (get_drop h1).1 h1 h2) ho
          show 2 * cntT (setT acc) + 0 < 2 * cntT (setT acc) + 1; omega
      | false =>
        have hclo : Clo (setT acc) := hcl rfl
        clear ih hcl
        simp (maxSteps := 2000000) (disch := omega) [gd_in, gd_and, wr_i64, ]
        refine (?key5 : ∀ (i : Nat) (z : V) (B : List (Nat × List V)) (H1 : Hp), i ≤ 8 → NumP P (intsT (setT acc) i) z H1 → Run G c15_B4 (S15_4 o z (.m (.i .i64 (i : Int))) B H1) _) 0 _ _ _ (by omega) (.inl ⟨rfl, rfl, rfl⟩)
        refine indM (fun i : Nat => 8 - i) fun i ih z B H1 hi hz => ?_
        obtain ⟨hnf2, X, hX⟩ := numP_nf hz
        have hln := intsT_len (setT acc) i
        unfold c15_B4
        by_cases hi8 : i < 8
        · have hi8' : (i : Int) < 8 := by omega
          have wi : wr .i64 ((i : Int) + 1) = (i : Int) + 1 := wr_i64 (by omega) (by omega)
          have gh := inP_has ho (by simp; omega) X (i : Int)
          rw [intA_mem, ← hX] at gh
          have es := intsT_succ (setT acc) i
          cases hT : setT acc i with
          | false =>
            rw [hT] at es gh
            simp only [Bool.false_eq_true, if_false, List.append_nil] at es
            simp (maxSteps := 2000000) (disch := omega) [gd_in, gd_and, wr_i64, hi8, hi8', wi, cl gh]
            exact ih (i + 1) (by omega) _ _ _ (by omega) (by rw [es]; exact hz)
          | true =>
            rw [hT] at es gh
            simp only [if_true] at es
            obtain ⟨o1, H2, ha2, hn1, ho1⟩ := numP_push hz (by omega) (i : Int)
            rw [← es] at ho1
            simp (maxSteps := 2000000) (disch := omega) [gd_in, gd_and, wr_i64, hi8, hi8', wi, cl gh, ha2, setC_v hn1]
            exact ih (i + 1) (by omega) _ _ _ (by omega) ho1
        · have : i = 8 := by omega
          subst this
          have hv2 := numP_view hz
          simp (maxSteps := 2000000) (disch := omega) [gd_in, gd_and, wr_i64, setC_v hnf2, hv2]
          exact ⟨hnf2, setT acc, hmid, hclo, rfl⟩
  obtain ⟨x, H', h1, rfl, T, h2, h3, rfl⟩ := key
  exact ⟨T, h2, h3, h1⟩
end Go.Mx.Tryd
