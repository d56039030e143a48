/- FormulaReturns, plain: what Text writes is read back. -/
import Derived.Test.YtcdcepfigjohfaaGreatDoorGf
set_option linter.unusedSimpArgs false
set_option linter.unusedVariables false
set_option linter.unusedSectionVars false
set_option maxRecDepth 100000
namespace Go.Mx.Tryz

theorem dval_app : ∀ (l : List Nat) (a c : Nat), dval a (l ++ [c]) = 10 * dval a l + (c - 48)
  | [], a, c => rfl
  | x :: l, a, c => by
    show dval (10 * a + (x - 48)) (l ++ [c]) = _
    rw [dval_app l]
    rfl
theorem decN_dig (u : Nat) : ∀ c, c ∈ decN u → 48 ≤ c ∧ c ≤ 57 := by
  refine indM (P := fun u => ∀ c, c ∈ decN u → 48 ≤ c ∧ c ≤ 57) (fun u : Nat => u) (fun u ih c hc => ?_) u
  by_cases h : u < 10
  · rw [decN_one h] at hc
    simp at hc
    omega
  · rw [decN_big h] at hc
    rcases List.mem_append.1 hc with h1 | h1
    · exact ih (u / 10) (by omega) c h1
    · simp at h1
      omega
theorem decN_dval (u : Nat) : dval 0 (decN u) = u := by
  refine indM (P := fun u => dval 0 (decN u) = u) (fun u : Nat => u) (fun u ih => ?_) u
  by_cases h : u < 10
  · rw [decN_one h]
    show 10 * 0 + (48 + u - 48) = u
    omega
  · rw [decN_big h, dval_app, ih (u / 10) (by omega)]
    omega
theorem decN_ne (u : Nat) : decN u ≠ [] := by
  by_cases h : u < 10
  · rw [decN_one h]; simp
  · rw [decN_big h]; simp
theorem decN_lenk : ∀ (k u : Nat), u < 10 ^ (k + 1) → (decN u).length ≤ k + 1
  | 0, u, h => by rw [decN_one (by simpa using h)]; simp
  | k + 1, u, h => by
    by_cases h1 : u < 10
    · rw [decN_one h1]; simp
    · rw [decN_big h1, List.length_append]
      have : u / 10 < 10 ^ (k + 1) := by
        rw [Nat.pow_succ] at h
        exact Nat.div_lt_of_lt_mul (by rw [Nat.mul_comm]; exact h)
      have := decN_lenk k (u / 10) this
      simp
      omega
theorem decN_hd (u : Nat) : 1 ≤ u → (decN u).take 1 ≠ [48] := by
  refine indM (P := fun u => 1 ≤ u → (decN u).take 1 ≠ [48]) (fun u : Nat => u) (fun u ih hu => ?_) u
  by_cases h : u < 10
  · rw [decN_one h]
    simp
    omega
  · rw [decN_big h]
    have := ih (u / 10) (by omega) (by omega)
    obtain ⟨a, t, e⟩ := List.exists_cons_of_ne_nil (decN_ne (u / 10))
    rw [e] at this ⊢
    simpa using this
theorem posR_dec (u : Nat) (h : u < 1000000000) : posR (decN u) = ((u : Int), true) := by
  have hl := decN_lenk 8 u h
  have hne := List.length_pos_iff.2 (decN_ne u)
  have hall : (decN u).all okD = true := List.all_eq_true.2 fun c hc => by unfold okD; exact decide_eq_true (decN_dig u c hc)
  have hz : (decide ((decN u).take 1 = [48]) && decide (1 < (decN u).length)) = false := by
    by_cases h0 : u = 0
    · subst h0; rw [decN_one (by omega)]; rfl
    · rw [decide_eq_false (decN_hd u (by omega))]; rfl
  have h2 : (posR (decN u)).2 = true := by
    rw [posR_ok, hall, hz, decide_eq_true (by omega), decide_eq_true (by omega)]
    rfl
  rw [posR_v h2, decN_dval]
theorem itoaN_mem (x : Int) : ∀ c, c ∈ itoaN x → c = 45 ∨ (48 ≤ c ∧ c ≤ 57) := fun c hc => by
  by_cases h : 0 ≤ x
  · obtain ⟨u, rfl⟩ := Int.eq_ofNat_of_zero_le h
    rw [itoaN_pos] at hc
    exact .inr (decN_dig u c hc)
  · obtain ⟨u, hu⟩ := Int.eq_ofNat_of_zero_le (show 0 ≤ -x by omega)
    have : x = -(u : Int) := by omega
    subst this
    rw [itoaN_neg u (by omega)] at hc
    rcases List.mem_cons.1 hc with h | h
    · exact .inl h
    · exact .inr (decN_dig u c h)
theorem itoaN_ne (x : Int) : itoaN x ≠ [] := by
  by_cases h : 0 ≤ x
  · obtain ⟨u, rfl⟩ := Int.eq_ofNat_of_zero_le h
    rw [itoaN_pos]
    exact decN_ne u
  · obtain ⟨u, hu⟩ := Int.eq_ofNat_of_zero_le (show 0 ≤ -x by omega)
    have : x = -(u : Int) := by omega
    subst this
    rw [itoaN_neg u (by omega)]
    simp
theorem numR_itoa (x : Int) (h1 : -1000000000 < x) (h2 : x < 1000000000) : numR (itoaN x) = (x, true) := by
  have hd : ∀ u : Nat, u < 1000000000 → numR (decN u) = ((u : Int), true) := fun u hu => by
    rw [← posR_dec u hu]
    obtain ⟨a, t, e⟩ := List.exists_cons_of_ne_nil (decN_ne u)
    have ha := decN_dig u a (by rw [e]; simp)
    rw [e]
    exact if_neg fun h => by omega
  by_cases h : 0 ≤ x
  · obtain ⟨u, rfl⟩ := Int.eq_ofNat_of_zero_le h
    rw [itoaN_pos]
    exact hd u (by omega)
  · obtain ⟨u, hu⟩ := Int.eq_ofNat_of_zero_le (show 0 ≤ -x by omega)
    have : x = -(u : Int) := by omega
    subst this
    rw [itoaN_neg u (by omega)]
    have e : numR (45 :: decN u) = (-(numR (decN u)).1, (numR (decN u)).2 && decide (0 < (numR (decN u)).1)) := if_pos ⟨rfl, decN_ne u⟩
    rw [e, hd u (by omega)]
    have : decide (0 < ((u : Nat) : Int)) = true := decide_eq_true (by omega)
    simp only [this, Bool.and_self]
theorem tlB_app {c : Nat} : ∀ {w : List Nat} (r : List Nat), (∀ x, x ∈ w → x ≠ c) → tlB c (w ++ c :: r) = some r ∧ hdB c (w ++ c :: r) = w
  | [], r, _ => by
    have e1 : tlB c (c :: r) = if c = c then some r else tlB c r := rfl
    have e2 : hdB c (c :: r) = if c = c then [] else c :: hdB c r := rfl
    rw [List.nil_append, e1, e2, if_pos rfl, if_pos rfl]
    exact ⟨rfl, rfl⟩
  | x :: w, r, h => by
    obtain ⟨h1, h2⟩ := tlB_app (w := w) r fun y hy => h y (by simp [hy])
    have e1 : tlB c (x :: (w ++ c :: r)) = if x = c then some (w ++ c :: r) else tlB c (w ++ c :: r) := rfl
    have e2 : hdB c (x :: (w ++ c :: r)) = if x = c then [] else x :: hdB c (w ++ c :: r) := rfl
    have hx := h x (by simp)
    rw [List.cons_append, e1, e2, if_neg hx, if_neg hx, h1, h2]
    exact ⟨rfl, rfl⟩
theorem tlB_no {c : Nat} : ∀ {w : List Nat}, (∀ x, x ∈ w → x ≠ c) → tlB c w = none
  | [], _ => rfl
  | x :: w, h => by
    have e1 : tlB c (x :: w) = if x = c then some w else tlB c w := rfl
    rw [e1, if_neg (h x (by simp))]
    exact tlB_no fun y hy => h y (by simp [hy])
theorem itoaN_32 (x : Int) : ∀ c, c ∈ itoaN x → c ≠ 32 := fun c hc => by have := itoaN_mem x c hc; omega
theorem itoaN_10 (x : Int) : ∀ c, c ∈ itoaN x → c ≠ 10 := fun c hc => by have := itoaN_mem x c hc; omega
theorem lineW_itoa (x : Int) (r : List Nat) : lineW (itoaN x ++ 32 :: r) = itoaN x :: lineW r := by
  obtain ⟨h1, h2⟩ := tlB_app r (itoaN_32 x)
  rw [lineW_some h1, h2]
  unfold fl1
  rw [if_neg (itoaN_ne x)]
  rfl
theorem clT_cons (x : Int) (c : List Int) : clT (x :: c) = itoaN x ++ 32 :: clT c := by
  show litT x ++ clT c = _
  unfold litT
  simp
theorem lineW_cl : ∀ c : List Int, lineW (clT c ++ [48]) = c.map itoaN ++ [[48]]
  | [] => rfl
  | x :: c => by
    rw [clT_cons, List.append_assoc, List.cons_append, lineW_itoa, lineW_cl c]
    rfl
theorem cl_mem : ∀ (c : List Int) (y : Nat), y ∈ clT c ++ [48] → y = 32 ∨ y = 45 ∨ (48 ≤ y ∧ y ≤ 57)
  | [], y, h => by
    have : y ∈ [48] := h
    simp at this
    omega
  | x :: c, y, h => by
    rw [clT_cons, List.append_assoc, List.cons_append] at h
    rcases List.mem_append.1 h with h | h
    · have := itoaN_mem x y h; omega
    · rcases List.mem_cons.1 h with h | h
      · exact .inl h
      · exact cl_mem c y h
theorem line1_cl (c : List Int) : line1 (clT c ++ [48]) = c.map itoaN ++ [[48]] := by
  unfold line1
  rw [if_neg, lineW_cl]
  intro h
  have hm : 99 ∈ clT c ++ [48] := List.mem_of_mem_take (i := 1) (by rw [h]; simp)
  have := cl_mem c 99 hm
  omega
def flatT (zs : List I) : List Nat := (zs.map fun z => clT (dI z) ++ [48, 10]).flatten
theorem txtG_eq : ∀ (zs : List I) (out o : List Nat), txtG out zs = some o → o = out ++ flatT zs ∧ (out.length ≤ 65536 → o.length ≤ 65536)
  | [], out, o, h => by cases h; exact ⟨by simp [flatT], fun h => h⟩
  | z :: r, out, o, h => by
    have e : txtG out (z :: r) = if 65536 < (out ++ clT (dI z) ++ [48, 10]).length then none else txtG (out ++ clT (dI z) ++ [48, 10]) r := rfl
    rw [e] at h
    split at h
    · cases h
    · rename_i hl
      obtain ⟨h1, h2⟩ := txtG_eq r _ o h
      refine ⟨?_, fun _ => h2 (by omega)⟩
      rw [h1]
      simp [flatT]
theorem txtW_flat : ∀ zs : List I, txtW (flatT zs) = zs.flatMap fun z => (dI z).map itoaN ++ [[48]]
  | [] => rfl
  | z :: r => by
    have e : flatT (z :: r) = (clT (dI z) ++ [48]) ++ 10 :: flatT r := by simp [flatT]
    obtain ⟨h1, h2⟩ := tlB_app (c := 10) (w := clT (dI z) ++ [48]) (flatT r) fun y hy => by have := cl_mem _ y hy; omega
    rw [e, txtW_some h1, h2, line1_cl, txtW_flat r]
    rfl
theorem txtW_head (n : Int) (k : Nat) (t : List Nat) : txtW (headT n k ++ t) = [112] :: [99, 110, 102] :: itoaN n :: itoaN k :: txtW t := by
  have e : headT n k ++ t = (112 :: 32 :: 99 :: 110 :: 102 :: 32 :: (itoaN n ++ 32 :: itoaN k)) ++ 10 :: t := by simp [headT]
  obtain ⟨h1, h2⟩ := tlB_app (c := 10) (w := 112 :: 32 :: 99 :: 110 :: 102 :: 32 :: (itoaN n ++ 32 :: itoaN k)) t fun y hy => by
    simp only [List.mem_cons, List.mem_append] at hy
    have a1 := itoaN_10 n y
    have a2 := itoaN_10 k y
    rcases hy with h | h | h | h | h | h | h | h | h
    all_goals first | omega | exact a1 h | exact a2 h
  rw [e, txtW_some h1, h2]
  have l0 : lineW (itoaN k) = [itoaN k] := by
    rw [lineW_none (tlB_no (itoaN_32 k))]
    exact if_neg (itoaN_ne k)
  have l1 : line1 (112 :: 32 :: 99 :: 110 :: 102 :: 32 :: (itoaN n ++ 32 :: itoaN k)) = [112] :: [99, 110, 102] :: itoaN n :: [itoaN k] := by
    have s1 : tlB 32 (112 :: 32 :: 99 :: 110 :: 102 :: 32 :: (itoaN n ++ 32 :: itoaN k)) = some (99 :: 110 :: 102 :: 32 :: (itoaN n ++ 32 :: itoaN k)) := rfl
    have s2 : tlB 32 (99 :: 110 :: 102 :: 32 :: (itoaN n ++ 32 :: itoaN k)) = some (itoaN n ++ 32 :: itoaN k) := rfl
    show lineW _ = _
    rw [lineW_some s1, lineW_some s2, lineW_itoa, l0]
    rfl
  rw [l1]
  rfl
theorem itoaN_0 : itoaN 0 = [48] := by
  have := itoaN_pos 0
  rw [decN_one (by omega)] at this
  exact this
theorem numsI_map : ∀ l : List Int, (∀ x, x ∈ l → -1000000000 < x ∧ x < 1000000000) → numsI (l.map itoaN) = some l
  | [], _ => rfl
  | x :: l, h => by
    have hx := h x (by simp)
    have := numsI_map l fun y hy => h y (by simp [hy])
    have e : numsI (itoaN x :: l.map itoaN) = if (numR (itoaN x)).2 = true then (numsI (l.map itoaN)).map fun l => (numR (itoaN x)).1 :: l else none := rfl
    rw [List.map_cons, e, numR_itoa x hx.1 hx.2, this]
    rfl
theorem cutI_flat : ∀ (cls out : List (List Int)), (∀ c, c ∈ cls → ∀ x, x ∈ c → x ≠ 0) → cutI cls.length (cls.flatMap fun c => c ++ [0]) out = (0, out ++ cls)
  | [], out, _ => by
    show (if ([] : List Int) = [] then (0, out) else (3, [])) = _
    rw [if_pos rfl, List.append_nil]
  | c :: r, out, h => by
    have e : ((c :: r).flatMap fun c => c ++ [0]) = c ++ 0 :: r.flatMap fun c => c ++ [0] := by simp
    have e2 : cutI (r.length + 1) (c ++ 0 :: r.flatMap fun c => c ++ [0]) out = match brk (c ++ 0 :: r.flatMap fun c => c ++ [0]) with | none => (4, []) | some p => cutI r.length p.2 (out ++ [p.1]) := rfl
    rw [e]
    show cutI (r.length + 1) _ out = _
    rw [e2, brk_app c _ (h c (by simp))]
    show cutI r.length (r.flatMap fun c => c ++ [0]) (out ++ [c]) = _
    rw [cutI_flat r _ fun d hd => h d (by simp [hd])]
    simp
theorem flat_itoa : ∀ zs : List I, (zs.flatMap fun z => (dI z).map itoaN ++ [[48]]) = ((zs.map dI).flatMap fun c => c ++ [0]).map itoaN
  | [] => rfl
  | z :: r => by
    have ih := flat_itoa r
    rw [List.flatMap_cons, ih, List.map_cons, List.flatMap_cons, List.map_append, List.map_append]
    simp only [List.map_cons, List.map_nil, itoaN_0]
theorem parse_text {n : Int} {zs : List I} (hf : frm n zs = true) (hk : zs.length ≤ 262144) : parseV (headT n zs.length ++ flatT zs) = frmV n (zs.map dI) := by
  have hf' := hf
  unfold frm at hf'
  simp only [Bool.and_eq_true, decide_eq_true_eq, List.all_eq_true] at hf'
  obtain ⟨⟨hn0, hn1, _⟩, hlits⟩ := hf'
  have hlit : ∀ z, z ∈ zs → ∀ x, x ∈ dI z → x ≠ 0 ∧ x ≤ n ∧ -n ≤ x := fun z hz x hx => by
    have := hlits z hz
    unfold lits at this
    have := List.all_eq_true.1 this x hx
    unfold lit at this
    exact of_decide_eq_true this
  have hflat := flat_itoa zs
  unfold parseV
  rw [txtW_head, txtW_flat, hflat]
  have hh : headOk ([112] :: [99, 110, 102] :: itoaN n :: itoaN zs.length :: ((zs.map dI).flatMap fun c => c ++ [0]).map itoaN) = true := by
    unfold headOk
    rw [decide_eq_true (by simp)]
    simp
  have hd : ([112] :: [99, 110, 102] :: itoaN n :: itoaN zs.length :: ((zs.map dI).flatMap fun c => c ++ [0]).map itoaN).drop 2 = (n :: (zs.length : Int) :: (zs.map dI).flatMap fun c => c ++ [0]).map itoaN := rfl
  have hmem : ∀ x, x ∈ ((zs.map dI).flatMap fun c => c ++ [0]) → x ≤ n ∧ -n ≤ x := fun x hx => by
    obtain ⟨c, hc, hx⟩ := List.mem_flatMap.1 hx
    obtain ⟨z, hz, rfl⟩ := List.mem_map.1 hc
    rcases List.mem_append.1 hx with h | h
    · exact (hlit z hz x h).2
    · simp at h; omega
  rw [hh, if_pos rfl, hd, numsI_map _ fun x hx => by
    rcases List.mem_cons.1 hx with h | h
    · omega
    · rcases List.mem_cons.1 h with h | h
      · omega
      · have := hmem x h; omega]
  have hV : numsV (some (n :: (zs.length : Int) :: (zs.map dI).flatMap fun c => c ++ [0])) = if n < 0 ∨ (zs.length : Int) < 0 then errV 15 else if 65536 < n then errV 5 else if ((zs.map dI).flatMap fun c => c ++ [0]).any (outside n) = true then errV 5 else if 262144 < (zs.length : Int) then errV 6 else cutV n (cutI (zs.length : Int).toNat ((zs.map dI).flatMap fun c => c ++ [0]) []) := rfl
  rw [hV, if_neg (by omega), if_neg (by omega), if_neg, if_neg (by omega)]
  · have hc := cutI_flat (zs.map dI) [] fun c hc x hx => by
      obtain ⟨z, hz, rfl⟩ := List.mem_map.1 hc
      exact (hlit z hz x hx).1
    rw [List.length_map] at hc
    rw [show (zs.length : Int).toNat = zs.length by omega, hc, List.nil_append]
    rfl
  · intro ha
    obtain ⟨x, hx, ho⟩ := List.any_eq_true.1 ha
    have := hmem x hx
    unfold outside at ho
    simp only [Bool.or_eq_true, decide_eq_true_eq] at ho
    omega

/-- Literals and clauses. -/
def tot (cls : List (List Int)) : Nat := (cls.map fun c => c.length + 1).sum
theorem cutI_tot : ∀ (k : Nat) (l : List Int) (out : List (List Int)), (cutI k l out).1 = 0 → tot (cutI k l out).2 = tot out + l.length ∧ ∀ c, c ∈ (cutI k l out).2 → c ∈ out ∨ ∀ x, x ∈ c → x ≠ 0 ∧ x ∈ l
  | 0, l, out, h => by
    have e : cutI 0 l out = if l = [] then (0, out) else (3, []) := rfl
    rw [e] at h ⊢
    split at h
    · rename_i hl; subst hl; rw [if_pos rfl]; exact ⟨rfl, fun c hc => .inl hc⟩
    · cases h
  | k + 1, l, out, h => by
    have e : cutI (k + 1) l out = match brk l with | none => (4, []) | some p => cutI k p.2 (out ++ [p.1]) := rfl
    rw [e] at h ⊢
    cases hb : brk l with
    | none => rw [hb] at h; cases h
    | some p =>
      rw [hb] at h
      obtain ⟨h1, h0⟩ := brk_some l p.1 p.2 hb
      have hl := congrArg List.length h1
      simp only [List.length_append, List.length_cons] at hl
      obtain ⟨i1, i2⟩ := cutI_tot k p.2 (out ++ [p.1]) h
      refine ⟨?_, fun c hc => ?_⟩
      · show tot (cutI k p.2 (out ++ [p.1])).2 = _
        rw [i1]
        have : tot (out ++ [p.1]) = tot out + (p.1.length + 1) := by simp [tot]
        omega
      · rcases i2 c hc with h | h
        · rcases List.mem_append.1 h with h | h
          · exact .inl h
          · simp at h; subst h; exact .inr fun x hx => ⟨h0 x hx, by rw [h1]; exact List.mem_append_left _ hx⟩
        · exact .inr fun x hx => ⟨(h x hx).1, by rw [h1]; exact List.mem_append_right _ (List.mem_cons_of_mem _ (h x hx).2)⟩
theorem tot_len (cls : List (List Int)) : cls.length ≤ tot cls := by
  induction cls with
  | nil => exact Nat.zero_le _
  | cons c r ih =>
    have : tot (c :: r) = c.length + 1 + tot r := by simp [tot]
    rw [List.length_cons]
    omega
theorem tot_mem {cls : List (List Int)} {c : List Int} (h : c ∈ cls) : c.length ≤ tot cls := by
  induction cls with
  | nil => cases h
  | cons d r ih =>
    have : tot (d :: r) = d.length + 1 + tot r := by simp [tot]
    rcases List.mem_cons.1 h with h | h
    · subst h; omega
    · have := ih h; omega
theorem parseV_ok (s : List Nat) (hs : s.length ≤ 2000) : ∃ a cls e, parseV s = formT a cls e ∧ (e ≠ 0 → a = 0 ∧ cls = []) ∧ (e = 0 → frm a (zcl cls) = true ∧ tot cls ≤ 2001) ∧ tot cls ≤ 2001 := by
  have er : ∀ e : Int, e ≠ 0 → ∃ a cls e', errV e = formT a cls e' ∧ (e' ≠ 0 → a = 0 ∧ cls = []) ∧ (e' = 0 → frm a (zcl cls) = true ∧ tot cls ≤ 2001) ∧ tot cls ≤ 2001 := fun e he => ⟨0, [], e, rfl, fun _ => ⟨rfl, rfl⟩, fun h => absurd h he, by simp [tot]⟩
  unfold parseV
  split
  · have hl := txtW_len s
    cases hn : numsI ((txtW s).drop 2) with
    | none => exact er 15 (by omega)
    | some x =>
      have hx := numsI_len _ _ hn
      rw [List.length_drop] at hx
      match x, hx with
      | [], _ => exact er 15 (by omega)
      | [_], _ => exact er 15 (by omega)
      | a :: b :: l, hx =>
        have hV : numsV (some (a :: b :: l)) = if a < 0 ∨ b < 0 then errV 15 else if 65536 < a then errV 5 else if l.any (outside a) = true then errV 5 else if 262144 < b then errV 6 else cutV a (cutI b.toNat l []) := rfl
        rw [hV]
        simp only [List.length_cons] at hx
        split
        · exact er 15 (by omega)
        · rename_i h1
          split
          · exact er 5 (by omega)
          · rename_i h2
            split
            · exact er 5 (by omega)
            · rename_i h3
              split
              · exact er 6 (by omega)
              · unfold cutV
                split
                · rename_i h0
                  obtain ⟨t1, t2⟩ := cutI_tot _ _ _ h0
                  have t3 : tot (cutI b.toNat l []).2 ≤ 2001 := by
                    have : tot [] = 0 := rfl
                    omega
                  refine ⟨a, (cutI b.toNat l []).2, 0, rfl, fun h => absurd rfl h, fun _ => ⟨?_, t3⟩, t3⟩
                  have t4 := tot_len (cutI b.toNat l []).2
                  unfold frm
                  simp only [Bool.and_eq_true, decide_eq_true_eq, List.all_eq_true, zcl_len]
                  refine ⟨⟨by omega, by omega, by omega⟩, fun z hz => ?_⟩
                  unfold zcl at hz
                  obtain ⟨c, hc, rfl⟩ := List.mem_map.1 hz
                  rw [dI_celI]
                  rcases t2 c hc with h | h
                  · cases h
                  · unfold lits
                    rw [List.all_eq_true]
                    intro x hx
                    obtain ⟨q1, q2⟩ := h x hx
                    have q3 : ¬ outside a x = true := fun ho => h3 (List.any_eq_true.2 ⟨x, q2, ho⟩)
                    unfold outside at q3
                    simp only [Bool.or_eq_true, decide_eq_true_eq] at q3
                    unfold lit
                    exact decide_eq_true ⟨q1, by omega, by omega⟩
                · rename_i h0
                  exact er _ h0
  · exact er 15 (by omega)
theorem txtG_some (n : Int) (hn : n ≤ 65536) : ∀ (zs : List I) (out : List Nat), (∀ z, z ∈ zs → lits n (dI z) = true) → out.length + 22 * tot (zs.map dI) ≤ 65536 → ∃ o, txtG out zs = some o
  | [], out, _, _ => ⟨out, rfl⟩
  | z :: r, out, hl, h => by
    have e : txtG out (z :: r) = if 65536 < (out ++ clT (dI z) ++ [48, 10]).length then none else txtG (out ++ clT (dI z) ++ [48, 10]) r := rfl
    have ht : tot ((z :: r).map dI) = (dI z).length + 1 + tot (r.map dI) := by simp [tot]
    have hc := clT_len n hn (dI z) (hl z (by simp))
    have hlen : (out ++ clT (dI z) ++ [48, 10]).length = out.length + (clT (dI z)).length + 2 := by simp; omega
    rw [e, if_neg (by omega)]
    exact txtG_some n hn r _ (fun y hy => hl y (by simp [hy])) (by omega)
theorem text_bytes {n : Int} {k : Nat} {zs : List I} : ∀ c, c ∈ headT n k ++ flatT zs → c < 256 := fun c hc => by
  rcases List.mem_append.1 hc with h | h
  · unfold headT at h
    simp only [List.mem_cons, List.mem_append, List.not_mem_nil, or_false] at h
    have a1 := itoaN_mem n c
    have a2 := itoaN_mem k c
    rcases h with h | h | h | h | h | h | h | h | h | h
    all_goals first | omega | (have := a1 h; omega) | (have := a2 h; omega)
  · unfold flatT at h
    obtain ⟨l, hl, hc⟩ := List.mem_flatten.1 h
    obtain ⟨z, _, rfl⟩ := List.mem_map.1 hl
    have : c ∈ clT (dI z) ++ [48] ∨ c = 10 := by
      rcases List.mem_append.1 hc with h | h
      · exact .inl (List.mem_append_left _ h)
      · simp at h
        rcases h with h | h
        · exact .inl (by rw [h]; simp)
        · exact .inr h
    rcases this with h | h
    · have := cl_mem _ c h; omega
    · omega
end Go.Mx.Tryz
