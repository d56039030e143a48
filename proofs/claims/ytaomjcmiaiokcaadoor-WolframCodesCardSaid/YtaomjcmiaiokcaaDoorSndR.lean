/- Operations that may change places: what a quiet operation and a row's making are; the swap. Nothing here speaks of a program. -/
import Derived.Test.YtaomjcmiaiokcaaDoorSndQ
namespace Go.Mx
section
variable {M M' M1 M2 : Mem} {H H' H2 : Hp} {vs : List V} {v v1 v2 : V} {call : Call} {s s1 s2 : St} {sh : Nat → Bool}

/-- The same row but for its freezing. -/
inductive SameR : Row → Row → Prop where
  | cs (ty esz : Nat) (es : List (List V)) (base : Nat) (fz fz' : Bool) : SameR (.cs ty esz es base fz) (.cs ty esz es base fz')
  | mp (es : List (I × V)) (fz fz' : Bool) : SameR (.mp es fz) (.mp es fz')

theorem SameR.refl (r : Row) : SameR r r := by cases r; exact .cs _ _ _ _ _ _; exact .mp _ _ _
theorem SameR.symm {r r' : Row} (h : SameR r r') : SameR r' r := by cases h; exact .cs _ _ _ _ _ _; exact .mp _ _ _

/-- The same rows but for their freezing, and maybe more. -/
def Le (H K : Hp) : Prop := ∀ (r : Nat) row, H[r]? = some row → ∃ row', K[r]? = some row' ∧ SameR row row'

theorem Le.refl (H : Hp) : Le H H := fun _ row h => ⟨row, h, .refl _⟩
theorem Le.nth {K : Hp} (h : Le H K) {r : Nat} {row : Row} (hr : nth H r = some row) : ∃ row', nth K r = some row' ∧ SameR row row' := by
  rw [nth_eq] at hr
  obtain ⟨row', h1, h2⟩ := h r row hr
  exact ⟨row', by rw [nth_eq]; exact h1, h2⟩
theorem Le.snoc (H : Hp) (row : Row) : Le H (H ++ [row]) := fun r x h => ⟨x, by rw [List.getElem?_append_left (List.getElem?_eq_some_iff.1 h).1]; exact h, .refl _⟩

theorem Le.elems {K : Hp} (h : Le H K) {x : V} {es : List (List V)} (he : Mx.elems H x = some es) : Mx.elems K x = some es := by
  unfold Mx.elems at he ⊢
  split at he
  · exact he
  · exact he
  · exact he
  · simp only [Option.bind_eq_some_iff] at he ⊢
    obtain ⟨row, hrow, he⟩ := he
    obtain ⟨row', h1, h2⟩ := h.nth hrow
    refine ⟨row', h1, ?_⟩
    cases h2 <;> exact he
  · cases he

theorem Le.mapOf {K : Hp} (h : Le H K) {x : V} {es : List (I × V)} (he : Mx.mapOf H x = some es) : Mx.mapOf K x = some es := by
  unfold Mx.mapOf at he ⊢
  split at he
  · exact he
  · exact he
  · simp only [Option.bind_eq_some_iff] at he ⊢
    obtain ⟨row, hrow, he⟩ := he
    obtain ⟨row', h1, h2⟩ := h.nth hrow
    refine ⟨row', h1, ?_⟩
    cases h2 <;> exact he
  · cases he

theorem Le.readA {B : List (Nat × List V)} {K : Hp} (h : Le H K) {n : Nat} {x : V} {cs : List V} (he : Mx.readA ⟨B, H⟩ n x = some cs) : Mx.readA ⟨B, K⟩ n x = some cs := by
  unfold Mx.readA at he ⊢
  split at he
  · exact he
  · simp only [Option.bind_eq_some_iff] at he ⊢
    obtain ⟨row, hrow, he⟩ := he
    obtain ⟨row', h1, h2⟩ := h.nth hrow
    refine ⟨row', h1, ?_⟩
    cases h2 <;> exact he
  · exact he
  · cases he

theorem optMap_imp {α β : Type} {f g : α → Option β} : ∀ {l : List α} {m : List β}, (∀ x y, f x = some y → g x = some y) → optMap f l = some m → optMap g l = some m
  | [], m, _, h => h
  | x :: l, m, hfg, h => by
    simp only [optMap, Option.bind_eq_some_iff, Option.some.injEq] at h ⊢
    obtain ⟨y, hy, m', hm, rfl⟩ := h
    exact ⟨y, hfg _ _ hy, m', optMap_imp hfg hm, rfl⟩

theorem Le.view {K : Hp} (h : Le H K) : ∀ (n : Nat) (x : V) (i : I), Mx.view n H x = some i → Mx.view n K x = some i
  | 0, x, i, he => by simp [Mx.view] at he
  | n + 1, x, i, he => by
    have ih := fun x i => Le.view h n x i
    unfold Mx.view at he ⊢
    cases x with
    | m x => exact he
    | ls es => exact he
    | sl r ver esz st len lim =>
      simp only [Option.bind_eq_some_iff] at he ⊢
      obtain ⟨es, h1, l, h2, he⟩ := he
      exact ⟨es, h.elems h1, l, optMap_imp (fun x y => optMap_imp fun x y => ih x y) h2, he⟩
    | pt r ver ix off =>
      simp only [Option.bind_eq_some_iff] at he ⊢
      obtain ⟨row, hrow, he⟩ := he
      obtain ⟨row', h1, h2⟩ := h.nth hrow
      refine ⟨row', h1, ?_⟩
      cases h2 with
      | cs ty esz es base fz fz' =>
        simp only [Option.bind_eq_some_iff] at he ⊢
        obtain ⟨cs, hcs, l, hl, he⟩ := he
        exact ⟨cs, h.readA hcs, l, optMap_imp (fun x y => ih x y) hl, he⟩
      | mp es fz fz' => exact he
    | mp r =>
      simp only [Option.bind_eq_some_iff] at he ⊢
      obtain ⟨row, hrow, he⟩ := he
      obtain ⟨row', h1, h2⟩ := h.nth hrow
      refine ⟨row', h1, ?_⟩
      cases h2 with
      | cs ty esz es base fz fz' => exact he
      | mp es fz fz' =>
        simp only [Option.bind_eq_some_iff] at he ⊢
        obtain ⟨l, hl, he⟩ := he
        refine ⟨l, optMap_imp (fun p y hp => ?_) hl, he⟩
        simp only [Option.bind_eq_some_iff] at hp ⊢
        obtain ⟨x, hx, hp⟩ := hp
        exact ⟨x, ih _ _ hx, hp⟩
    | fn f cap =>
      simp only [Option.bind_eq_some_iff] at he ⊢
      obtain ⟨l, hl, he⟩ := he
      exact ⟨l, optMap_imp (fun x y => ih x y) hl, he⟩
    | ag cs =>
      simp only [Option.bind_eq_some_iff] at he ⊢
      obtain ⟨l, hl, he⟩ := he
      exact ⟨l, optMap_imp (fun x y => ih x y) hl, he⟩
    | _ => exact he

theorem Le.readX {B : List (Nat × List V)} {K : Hp} (h : Le H K) {o : OR} (he : Mx.readX ⟨B, H⟩ o vs = some v) : Mx.readX ⟨B, K⟩ o vs = some v := by
  unfold Mx.readX at he ⊢
  split at he
  · simp only [Option.bind_eq_some_iff] at he ⊢
    obtain ⟨cs, h1, h2⟩ := he
    exact ⟨cs, h.readA h1, h2⟩
  · simp only [Option.bind_eq_some_iff] at he ⊢
    obtain ⟨cs, h1, h2⟩ := he
    exact ⟨cs, h.mapOf h1, h2⟩
  · simp only [Option.bind_eq_some_iff] at he ⊢
    obtain ⟨cs, h1, h2⟩ := he
    exact ⟨cs, h.mapOf h1, h2⟩
  · split at he
    · exact he
    · simp only [Option.bind_eq_some_iff] at he ⊢
      obtain ⟨row, hrow, he⟩ := he
      obtain ⟨row', h1, h2⟩ := h.nth hrow
      refine ⟨row', h1, ?_⟩
      cases h2 <;> exact he
    · cases he
  · simp only [Option.bind_eq_some_iff] at he ⊢
    obtain ⟨cs, h1, h2⟩ := he
    exact ⟨cs, h.elems h1, h2⟩
  · cases he

/- Freezing, row by row. -/
def frz : Row → Row
  | .cs ty esz es base _ => .cs ty esz es base true
  | .mp es _ => .mp es true

theorem frz_same (r : Row) : SameR r (frz r) := by cases r; exact .cs _ _ _ _ _ _; exact .mp _ _ _
theorem frz_frz (r : Row) : frz (frz r) = frz r := by cases r <;> rfl
theorem freezeRow_frz {r r' : Row} (h : freezeRow r = some r') : r' = frz r := by
  cases r <;> simp only [freezeRow, gd_some, Option.some.injEq] at h <;> exact h.2.symm
theorem freezeRow_same {r r' r2 : Row} (h : freezeRow r = some r') (k : SameR r r2) : freezeRow r2 = some (frz r2) := by
  cases k <;> simp only [freezeRow, gd_some, Option.some.injEq] at h ⊢ <;> exact ⟨h.1, rfl⟩

/-- What freezing leaves. -/
def fzAt (rs : List Nat) (i : Nat) (row : Row) : Row := match rs.contains i with
  | true => frz row
  | false => row

theorem fzAt_same (rs : List Nat) (i : Nat) (row : Row) : SameR row (fzAt rs i row) := by
  unfold fzAt
  split
  · exact frz_same row
  · exact .refl row

theorem setEl_mk {α : Type} : ∀ {l : List α} {i : Nat} (x : α), i < l.length → setEl l i x = some (l.set i x)
  | [], i, x, h => by simp at h
  | y :: l, 0, x, _ => rfl
  | y :: l, i + 1, x, h => by simp [setEl, setEl_mk x (show i < l.length by simpa using h)]

theorem freeze_get : ∀ {rs : List Nat} {H H' : Hp}, freeze rs H = some H' → (∀ r, r ∈ rs → ∃ row row', H[r]? = some row ∧ freezeRow row = some row') ∧ ∀ i, H'[i]? = (H[i]?).map (fzAt rs i)
  | [], H, H', h => by
    simp only [freeze, Option.some.injEq] at h
    subst h
    refine ⟨by simp, fun i => ?_⟩
    cases H[i]? <;> rfl
  | r :: rs, H, H', h => by
    simp only [freeze, Option.bind_eq_some_iff, nth_eq] at h
    obtain ⟨row, hrow, row', hf, H1, hs, h⟩ := h
    obtain ⟨hl, rfl⟩ := setEl_eq hs
    have := freezeRow_frz hf
    subst this
    obtain ⟨h1, h2⟩ := freeze_get h
    refine ⟨fun k hk => ?_, fun i => ?_⟩
    · by_cases e : k = r
      · subst e; exact ⟨row, _, hrow, hf⟩
      · obtain ⟨x, x', hx, hx'⟩ := h1 k ((List.mem_cons.1 hk).resolve_left e)
        rw [List.getElem?_set_ne (Ne.symm e)] at hx
        exact ⟨x, x', hx, hx'⟩
    · rw [h2 i]
      by_cases e : i = r
      · subst e
        rw [hrow, List.getElem?_set_self hl]
        simp only [Option.map_some, fzAt, List.contains_cons, beq_self_eq_true, Bool.true_or]
        cases rs.contains i <;> simp [frz_frz]
      · rw [List.getElem?_set_ne (Ne.symm e)]
        cases H[i]? with
        | none => rfl
        | some x =>
          have : (i == r) = false := by simpa using e
          simp only [Option.map_some, fzAt, List.contains_cons, this, Bool.false_or]

theorem freeze_mk : ∀ {rs : List Nat} {H : Hp}, (∀ r, r ∈ rs → ∃ row row', H[r]? = some row ∧ freezeRow row = some row') → ∃ H', freeze rs H = some H'
  | [], H, _ => ⟨H, rfl⟩
  | r :: rs, H, h => by
    obtain ⟨row, row', hrow, hf⟩ := h r (by simp)
    have hl := (List.getElem?_eq_some_iff.1 hrow).1
    have := freezeRow_frz hf
    subst this
    obtain ⟨H', h'⟩ := freeze_mk (rs := rs) (H := H.set r (frz row)) fun k hk => by
      obtain ⟨x, x', hx, hx'⟩ := h k (by simp [hk])
      by_cases e : k = r
      · subst e
        rw [List.getElem?_set_self hl]
        exact ⟨_, _, rfl, freezeRow_same hf (frz_same row)⟩
      · rw [List.getElem?_set_ne (Ne.symm e)]
        exact ⟨x, x', hx, hx'⟩
    exact ⟨H', by simp [freeze, nth_eq, hrow, hf, setEl_mk _ hl, h']⟩

theorem freeze_le {rs : List Nat} (h : freeze rs H = some H') : Le H H' ∧ Le H' H ∧ H'.length = H.length := by
  obtain ⟨_, h2⟩ := freeze_get h
  refine ⟨fun r row hr => ⟨fzAt rs r row, by rw [h2, hr]; rfl, fzAt_same _ _ _⟩, fun r row hr => ?_, ?_⟩
  · rw [h2] at hr
    obtain ⟨x, hx, rfl⟩ := Option.map_eq_some_iff.1 hr
    exact ⟨x, hx, (fzAt_same _ _ _).symm⟩
  · have a1 : ∀ i, i < H'.length ↔ i < H.length := fun i => by
      have := h2 i
      constructor
      · intro hlt
        rw [List.getElem?_eq_getElem hlt] at this
        cases hx : H[i]? with
        | none => simp [hx] at this
        | some x => exact (List.getElem?_eq_some_iff.1 hx).1
      · intro hlt
        rw [List.getElem?_eq_getElem hlt, Option.map_some] at this
        exact (List.getElem?_eq_some_iff.1 this).1
    rcases Nat.lt_trichotomy H'.length H.length with h | h | h
    · have := (a1 H'.length).2 h; omega
    · exact h
    · have := (a1 H.length).1 h; omega

/-- Rows that may be frozen, may be so in a heap that is alike. -/
theorem freeze_to {rs : List Nat} {K : Hp} (h : freeze rs H = some H') (k : Le H K) : ∃ K', freeze rs K = some K' :=
  freeze_mk fun r hr => by
    obtain ⟨row, row', h1, h2⟩ := (freeze_get h).1 r hr
    obtain ⟨row2, h3, h4⟩ := k r row h1
    exact ⟨row2, _, h3, freezeRow_same h2 h4⟩

theorem fzAt_comm (rs qs : List Nat) (i : Nat) (row : Row) : fzAt rs i (fzAt qs i row) = fzAt qs i (fzAt rs i row) := by
  unfold fzAt
  cases rs.contains i <;> cases qs.contains i <;> rfl

theorem freeze_comm {rs qs : List Nat} {A B C D : Hp} (h1 : freeze rs H = some A) (h2 : freeze qs A = some B) (h3 : freeze qs H = some C) (h4 : freeze rs C = some D) : D = B := by
  refine List.ext_getElem? fun i => ?_
  rw [(freeze_get h4).2, (freeze_get h3).2, (freeze_get h2).2, (freeze_get h1).2]
  cases H[i]? with
  | none => rfl
  | some row => simp only [Option.map_some, fzAt_comm rs qs]

theorem freeze_snoc {rs : List Nat} {A D : Hp} {row : Row} (h1 : freeze rs H = some A) (h2 : freeze rs (H ++ [row]) = some D) : D = A ++ [row] := by
  have hl := (freeze_le h1).2.2
  refine List.ext_getElem? fun i => ?_
  rw [(freeze_get h2).2]
  by_cases hi : i < H.length
  · rw [List.getElem?_append_left hi, List.getElem?_append_left (by omega), (freeze_get h1).2]
  · rw [List.getElem?_append_right (by omega), List.getElem?_append_right (by omega), hl]
    cases hx : [row][i - H.length]? with
    | none => rfl
    | some x =>
      have hnot : rs.contains i = false := by
        cases hc : rs.contains i with
        | false => rfl
        | true =>
          obtain ⟨y, _, hy, _⟩ := (freeze_get h1).1 i (List.contains_iff_mem.1 hc)
          exact absurd (List.getElem?_eq_some_iff.1 hy).1 hi
      simp only [Option.map_some, fzAt, hnot]

/-- An operation that reads, and may freeze: what it gives it gives wherever memory is alike. -/
def Quiet (f : Mem → Option (V × Mem)) (M : Mem) (v : V) (M1 : Mem) : Prop := ∃ rs, freeze rs M.H = some M1.H ∧ M1.B = M.B ∧ ∀ K K', Le M.H K → freeze rs K = some K' → f ⟨M.B, K⟩ = some (v, ⟨M.B, K'⟩)

/-- Calls outside of shared memory are quiet. -/
def QuietCall (sh : Nat → Bool) (call : Call) : Prop := ∀ f, sh f = false → ∀ vs H v H', call f vs H = some (v, H') → ∃ rs, freeze rs H = some H' ∧ ∀ K K', Le H K → freeze rs K = some K' → call f vs K = some (v, K')

theorem quiet_op {q : O} (hq : QuietCall sh call) (hk : memK sh q = 1) (he : evO call M q vs = some (v, M1)) : Quiet (fun K => evO call K q vs) M v M1 := by
  cases q with
  | p o => simp [memK] at hk
  | r o =>
    obtain ⟨h, rfl⟩ := evO_r he
    refine ⟨[], rfl, rfl, fun K K' hle hf => ?_⟩
    simp only [freeze, Option.some.injEq] at hf
    subst hf
    simp [evO, hle.readX (B := M1.B) h]
  | l o =>
    cases o with
    | bsf esz zero n places =>
      simp only [evO, loudX, Option.bind_eq_some_iff, gd_some, Option.some.injEq, Prod.mk.injEq] at he
      obtain ⟨es, h1, h2, l, h3, H', h4, rfl, rfl⟩ := he
      refine ⟨_, h4, rfl, fun K K' hle hf => ?_⟩
      have h3' := optMap_imp (g := fun e => optMap (view 20 K) e) (fun x y => optMap_imp fun x y => hle.view 20 x y) h3
      simp [evO, loudX, h1, h2, gd, h3', hf]
    | cal f =>
      have hf : sh f = false := by
        simp only [memK] at hk
        split at hk
        · simp at hk
        · assumption
      simp only [evO, loudX, Option.bind_eq_some_iff, Option.some.injEq, Prod.mk.injEq] at he
      obtain ⟨⟨r, H'⟩, h1, rfl, rfl⟩ := he
      obtain ⟨rs, h2, h3⟩ := hq f hf vs M.H r H' h1
      exact ⟨rs, h2, rfl, fun K K' hle hf => by simp [evO, loudX, h3 K K' hle hf]⟩
    | _ => simp [memK] at hk

/-- An operation that makes a row. -/
theorem new_op {q : O} (hk : memK sh q = 2) (he : evO call M q vs = some (v, M1)) : ∃ row, M1 = { M with H := M.H ++ [row] } ∧ ∀ K : Mem, K.H.length = M.H.length → evO call K q vs = some (v, { K with H := K.H ++ [row] }) := by
  cases q with
  | p o => simp [memK] at hk
  | r o => simp [memK] at hk
  | l o =>
    cases o with
    | cal f => simp only [memK] at hk; split at hk <;> simp at hk
    | als ty esz n zero =>
      match vs, he with
      | [], he =>
        simp only [evO, loudX, gd_some, Option.some.injEq, Prod.mk.injEq] at he
        obtain ⟨h1, rfl, rfl⟩ := he
        exact ⟨_, rfl, fun K hK => by simp only [evO, loudX, h1, gd, hK]⟩
    | bxs ty esz n =>
      match vs, he with
      | [x], he =>
        simp only [evO, loudX, Option.bind_eq_some_iff, gd_some, Option.some.injEq, Prod.mk.injEq] at he
        obtain ⟨cs, h0, h1, rfl, rfl⟩ := he
        exact ⟨_, rfl, fun K hK => by simp only [evO, loudX, h0, Option.bind_some, h1, gd, hK]⟩
    | mkm =>
      match vs, he with
      | [], he =>
        simp only [evO, loudX, Option.some.injEq, Prod.mk.injEq] at he
        obtain ⟨rfl, rfl⟩ := he
        exact ⟨_, rfl, fun K hK => by simp only [evO, loudX, hK]⟩
      | [x], he =>
        simp only [evO, loudX] at he
        split at he
        · simp only [Option.some.injEq, Prod.mk.injEq] at he
          obtain ⟨rfl, rfl⟩ := he
          exact ⟨_, rfl, fun K hK => by simp only [evO, loudX, hK]⟩
        · cases he
    | mks ty esz zero bytes =>
      match vs, he with
      | [x, y], he =>
        simp only [evO, loudX] at he
        split at he
        · simp only [Option.bind_eq_some_iff, gd_some, Option.some.injEq, Prod.mk.injEq] at he
          obtain ⟨n, h0, h1, rfl, rfl⟩ := he
          exact ⟨_, rfl, fun K hK => by simp only [evO, loudX, h0, Option.bind_some, h1, gd, hK]⟩
        · cases he
    | bss ty esz zero n places =>
      simp only [evO, loudX, Option.bind_eq_some_iff, gd_some, Option.some.injEq, Prod.mk.injEq] at he
      obtain ⟨es, h0, h1, rfl, rfl⟩ := he
      exact ⟨_, rfl, fun K hK => by simp only [evO, loudX, h0, Option.bind_some, h1, gd, hK]⟩
    | _ => simp [memK] at hk

theorem evO_p_any {x : OP} (h : evO call M (.p x) vs = some (v, M')) (K : Mem) : evO call K (.p x) vs = some (v, K) := by
  obtain ⟨h, _⟩ := evO_p h
  simp [evO, h]

theorem memK_0 {q : O} (h : memK sh q = 0) : ∃ x, q = .p x := by
  cases q with
  | p o => exact ⟨o, rfl⟩
  | r o => simp [memK] at h
  | l o => cases o <;> simp only [memK] at h <;> first | (simp at h; done) | (split at h <;> simp at h)

/-- Two operations on memory change places. -/
theorem mem_swap {qx qy : O} {xs ys : List V} (hq : QuietCall sh call) (hk : memK sh qx = 0 ∨ memK sh qy = 0 ∨ (memK sh qx = 1 ∧ memK sh qy ≤ 2)) (hx : evO call M qx xs = some (v1, M1)) (hy : evO call M1 qy ys = some (v2, M2)) :
    ∃ M1', evO call M qy ys = some (v2, M1') ∧ evO call M1' qx xs = some (v1, M2) := by
  rcases hk with hk | hk | ⟨hk1, hk2⟩
  · obtain ⟨x, rfl⟩ := memK_0 hk
    have := evO_p_any hx M2
    obtain ⟨_, rfl⟩ := evO_p hx
    exact ⟨M2, hy, this⟩
  · obtain ⟨y, rfl⟩ := memK_0 hk
    have := evO_p_any hy M
    obtain ⟨_, rfl⟩ := evO_p hy
    exact ⟨M, this, hx⟩
  · obtain ⟨rs, h1, h2, h3⟩ := quiet_op hq hk1 hx
    obtain ⟨l1, l2, l3⟩ := freeze_le h1
    have : memK sh qy = 0 ∨ memK sh qy = 1 ∨ memK sh qy = 2 := by omega
    rcases this with hy0 | hy1 | hy2
    · obtain ⟨y, rfl⟩ := memK_0 hy0
      have := evO_p_any hy M
      obtain ⟨_, rfl⟩ := evO_p hy
      exact ⟨M, this, hx⟩
    · obtain ⟨qs, k1, k2, k3⟩ := quiet_op hq hy1 hy
      obtain ⟨C, hC⟩ := freeze_to k1 l2
      obtain ⟨m1, m2, m3⟩ := freeze_le hC
      obtain ⟨D, hD⟩ := freeze_to h1 m1
      have := freeze_comm h1 k1 hC hD
      subst this
      refine ⟨⟨M.B, C⟩, by have := k3 M.H C l2 hC; rwa [h2] at this, ?_⟩
      have := h3 C M2.H m1 hD
      have e : M2 = ⟨M.B, M2.H⟩ := by rw [← h2, ← k2]
      rw [e]
      exact this
    · obtain ⟨row, rfl, k⟩ := new_op hy2 hy
      refine ⟨_, k M l3.symm, ?_⟩
      obtain ⟨D, hD⟩ := freeze_to h1 (Le.snoc M.H row)
      have := freeze_snoc h1 hD
      subst this
      have := h3 _ _ (Le.snoc M.H row) hD
      simp only [h2]
      exact this

/- The swap of two operations. -/
def okD : Dst → V → Bool
  | .v n, x => okDst n x
  | _, _ => true

def putD (s : St) : Dst → V → St
  | .no, _ => s
  | .v n, x => { s with E := setE s.E n x }
  | .l n, x => { s with L := setE s.L n x }

theorem setD_eq (s : St) (d : Dst) (x : V) : setD s d x = gd (okD d x) (some (putD s d x)) := by cases d <;> rfl

theorem putD_M (s : St) (d : Dst) (x : V) : (putD s d x).M = s.M := by cases d <;> rfl
theorem putD_withM (s : St) (d : Dst) (x : V) (M : Mem) : { putD s d x with M := M } = putD { s with M := M } d x := by cases d <;> rfl

theorem setE_comm (e : Env) (n m : Nat) (x y : V) (h : n ≠ m) : setE (setE e n x) m y = setE (setE e m y) n x := by
  have blt : ∀ a b : Nat, Nat.blt a b = decide (a < b) := fun a b => by
    rw [Bool.eq_iff_iff]; simp [Nat.blt_eq]
  have beq' : ∀ a b : Nat, Nat.beq a b = decide (a = b) := fun a b => by
    rw [Bool.eq_iff_iff]; simp [Nat.beq_eq]
  induction e with
  | nil =>
    simp only [setE, blt, beq']
    rcases Nat.lt_or_gt_of_ne h with h' | h'
    · have : ¬ m < n := by omega
      simp [this, h', h]
    · have : ¬ n < m := by omega
      simp [this, h', Ne.symm h]
  | cons p r ih =>
    obtain ⟨k, z⟩ := p
    simp only [setE, blt, beq']
    rcases Nat.lt_trichotomy n k with h1 | h1 | h1 <;> rcases Nat.lt_trichotomy m k with h2 | h2 | h2 <;> rcases Nat.lt_or_gt_of_ne h with h3 | h3 <;>
      first
        | (exfalso; omega)
        | (simp (disch := omega) only [setE, blt, beq', decide_eq_true, decide_eq_false]; done)
        | (simp (disch := omega) only [setE, blt, beq', decide_eq_true, decide_eq_false, ih]; done)

theorem putD_comm (s : St) (d d' : Dst) (x y : V) (h : sameD d d' = false) : putD (putD s d x) d' y = putD (putD s d' y) d x := by
  have ne : ∀ n m : Nat, Nat.beq n m = false → n ≠ m := fun n m h e => by subst e; simp at h
  cases d <;> cases d' <;> simp only [putD, sameD] at h ⊢
  · rw [setE_comm _ _ _ _ _ (ne _ _ h)]
  · rw [setE_comm _ _ _ _ _ (ne _ _ h)]
end
end Go.Mx
