/- Snapshots: what view makes stands for the same value over the rows' blocks; freezing rows makes their blocks stable. -/
import Derived.Test.YtaomjcmiaiokcaaDoorSndH
namespace Go.Mx
section
variable {P : Program} {w : World} {S : Nat → Prop} {ρ β : Nat → Nat} {M : Mem} {H : Hp}

/-- A value that names rows of R only (n levels deep). -/
def InN (R : Nat → Prop) : Nat → V → Prop
  | 0, _ => True
  | n + 1, v => match v with
    | .sl r _ _ _ _ _ => R r
    | .pt r _ _ _ => R r
    | .mp r => R r
    | .fn _ cap => ∀ x, x ∈ cap → InN R n x
    | .ag cs => ∀ x, x ∈ cs → InN R n x
    | .tu cs => ∀ x, x ∈ cs → InN R n x
    | _ => True

/-- The rows of R name rows of R only. -/
def RowCl (R : Nat → Prop) (H : Hp) : Prop := ∀ r row, R r → H[r]? = some row → match row with
  | .cs _ _ es _ _ => ∀ e, e ∈ es → ∀ x, x ∈ e → ∀ n, InN R n x
  | .mp es _ => ∀ p, p ∈ es → ∀ n, InN R n p.2

/-- S, and the blocks of the rows of R. -/
def Sof (S : Nat → Prop) (ρ : Nat → Nat) (H : Hp) (R : Nat → Prop) : Nat → Prop := fun b => S b ∨ ∃ r, R r ∧ r < H.length ∧ b = ρ r

theorem optMap_get {α β : Type} {f : α → Option β} : ∀ {l : List α} {m : List β}, optMap f l = some m → m.length = l.length ∧ ∀ (j : Nat) y, m[j]? = some y → ∃ x, l[j]? = some x ∧ f x = some y
  | [], m, h => by simp [optMap] at h; subst h; simp
  | x :: l, m, h => by
    simp only [optMap, Option.bind_eq_some_iff, Option.some.injEq] at h
    obtain ⟨y, hy, l', hl, rfl⟩ := h
    obtain ⟨h1, h2⟩ := optMap_get hl
    refine ⟨by simp [h1], fun j z hj => ?_⟩
    cases j with
    | zero => simp at hj; subst hj; exact ⟨x, rfl, hy⟩
    | succ j => simpa using h2 j z (by simpa using hj)

theorem optMap_flat {α β : Type} {f : α → Option β} : ∀ {es : List (List α)} {l : List (List β)}, optMap (fun e => optMap f e) es = some l → optMap f es.flatten = some l.flatten
  | [], l, h => by simp [optMap] at h; subst h; rfl
  | e :: es, l, h => by
    simp only [optMap, Option.bind_eq_some_iff, Option.some.injEq] at h
    obtain ⟨y, hy, l', hl, rfl⟩ := h
    have ih := optMap_flat hl
    have app : ∀ (a : List α) (b : List α) (y z : List β), optMap f a = some y → optMap f b = some z → optMap f (a ++ b) = some (y ++ z) := by
      intro a
      induction a with
      | nil => intro b y z h1 h2; simp [optMap] at h1; subst h1; simpa using h2
      | cons c a iha =>
        intro b y z h1 h2
        simp only [optMap, Option.bind_eq_some_iff, Option.some.injEq] at h1
        obtain ⟨c', hc', a', ha', rfl⟩ := h1
        simp [optMap, hc', iha b a' z ha' h2]
    exact app _ _ _ _ hy ih

theorem optMap_uni {α β : Type} {f : α → Option β} {n : Nat} {es : List (List α)} {l : List (List β)} (h : optMap (fun e => optMap f e) es = some l) (hu : Uni n es) : Uni n l := fun e he => by
  obtain ⟨j, hj, rfl⟩ := List.getElem_of_mem he
  obtain ⟨x, hx, hf⟩ := (optMap_get h).2 j _ (List.getElem?_eq_getElem hj)
  rw [(optMap_get hf).1]
  exact hu.get hx

theorem view_snd {R : Nat → Prop} (hok : Ok w S ρ β M) (hcl : RowCl R M.H) : ∀ (n : Nat) (v : V) (c : Value) (i : I), view n M.H v = some i → InN R n v → RepV w S ρ M.H v c → RepI w (Sof S ρ M.H R) i c
  | 0, v, c, i, h, _, _ => by simp [view] at h
  | n + 1, v, c, i, h, hin, hv => by
    have toI : ∀ {x : I} {c : Value}, RepI w S x c → RepI w (Sof S ρ M.H R) x c := fun h => h.mono (fun _ _ => rfl) (fun _ h => .inl h)
    have list : ∀ {xs : List V} {l : List I} {cs : List Value}, optMap (view n M.H) xs = some l → (∀ x, x ∈ xs → InN R n x) → RepL w S ρ M.H xs cs → LI w (Sof S ρ M.H R) l cs := fun {xs l cs} h1 h2 h3 => by
      obtain ⟨g1, g2⟩ := optMap_get h1
      refine ⟨by rw [List.length_map, g1]; exact h3.1, fun j y hj => ?_⟩
      rw [List.getElem?_map] at hj
      obtain ⟨z, hz, rfl⟩ := Option.map_eq_some_iff.1 hj
      obtain ⟨x, hx, hf⟩ := g2 j z hz
      obtain ⟨c, hc, hr⟩ := h3.2 j x hx
      exact ⟨c, hc, .m (view_snd hok hcl n x c z hf (h2 x (List.mem_of_getElem? hx)) hr)⟩
    unfold view at h
    cases v with
    | m x => simp only [Option.some.injEq] at h; subst h; exact toI hv.imm
    | un => cases h
    | fa d off => cases h
    | tu vs => cases h
    | ls es => simp only [Option.some.injEq] at h; subst h; exact toI (ls_imm hv)
    | sl r ver esz st len lim =>
      simp only [Option.bind_eq_some_iff, Option.some.injEq] at h
      obtain ⟨es, hes, l, hl, rfl⟩ := h
      obtain ⟨ad, cap, esz1, cells, rfl, hu1, hr, hc⟩ := elems_snd (β := β) hok (RepX.ofV hv) hes
      have hR : R r := hin
      have hrl : ∃ row, M.H[r]? = some row := by
        cases hv with | sl _ _ _ _ _ _ ty' es' base' fz' _ _ hrow' h1 h2 h3 h4 h5 hn hb ha => exact ⟨_, hrow'⟩
      obtain ⟨row, hrow⟩ := hrl
      have hcap : es.length ≤ cap ∧ cap ≤ maxLen := by
        cases hv with | sl _ _ _ _ _ _ ty' es' base' fz' _ _ hrow' h1 h2 h3 h4 h5 hn hb ha => exact ⟨h3, h4⟩
      have hmem : ∀ x, x ∈ es.flatten → InN R n x := fun x hx => by
        simp only [elems, Option.bind_eq_some_iff, nth_eq] at hes
        obtain ⟨row', hrow', hes'⟩ := hes
        split at hes'
        · simp only [gd_some, Option.some.injEq] at hes'
          obtain ⟨_, rfl⟩ := hes'
          obtain ⟨e, he, hxe⟩ := List.mem_flatten.1 hx
          exact hcl r _ hR hrow' e (List.mem_of_mem_drop (List.mem_of_mem_take he)) x hxe n
        · cases hes'
      have hli := list (optMap_flat hl) hmem hr
      have hul := optMap_uni hl hu1
      have hll := (optMap_get hl).1
      by_cases hne : es = []
      · subst hne
        have : l = [] := List.eq_nil_of_length_eq_zero (by simpa using hll)
        subst this
        exact .sl [] ad cap 0 0 0 (fun _ _ => undef) hcap.1 hcap.2 (by simp) (by simp) (by simp) (by simp)
      · obtain ⟨b, off, rfl, hcell, hb⟩ := hc hne
        obtain ⟨_, cf, hcf, hrf⟩ := RepL.toI hli
        rw [← hll]
        refine .sl l _ cap esz1 b off (fun i j => cf (i * esz1 + j)) (by omega) hcap.2 hul (fun _ => ⟨rfl, ?_⟩) (fun i e j x hi hj => ?_) (fun i e j x hi hj => hrf _ _ (flat_cell hul hi hj))
        · rcases hb with hb | ⟨r', hr', rfl, he⟩
          · exact .inl hb
          · simp only [ref1, List.cons.injEq, and_true] at he
            subst he
            exact .inr ⟨_, hR, hr', rfl⟩
        · exact hcell _ _ (hcf _ _ (flat_cell hul hi hj))
    | pt r ver ix off =>
      simp only [Option.bind_eq_some_iff, nth_eq] at h
      obtain ⟨row, hrow, h⟩ := h
      split at h
      · rename_i ty esz es0 base fz
        simp only [Option.bind_eq_some_iff, Option.some.injEq] at h
        obtain ⟨cs, hcs, l, hl, rfl⟩ := h
        have hcs' : readA M (esz - off) (.pt r ver ix off) = some cs := hcs
        obtain ⟨b, o, cells, rfl, _, hr, hcell, hb⟩ := readA_snd hok (RepX.ofV (β := β) hv) hcs'
        have hR : R r := hin
        have hmem : ∀ x, x ∈ cs → InN R n x := fun x hx => by
          simp only [readA, nth_eq, hrow, Option.bind_some, gd_some, Bool.and_eq_true] at hcs
          obtain ⟨_, _, hU, _⟩ := hok.rows r _ hrow
          obtain ⟨he, _⟩ := readR_eq hU hcs.2
          rw [he] at hx
          obtain ⟨e, he, hxe⟩ := List.mem_flatten.1 (List.mem_of_mem_drop (List.mem_of_mem_take hx))
          exact hcl r _ hR hrow e he x hxe n
        obtain ⟨_, cf, hcf, hrf⟩ := RepL.toI (list hl hmem hr)
        refine .pt l b o cf ?_ (fun j x hj => hcell _ _ (hcf _ _ hj)) (fun j x hj => hrf _ _ hj)
        rcases hb rfl with hb | ⟨r', hr', rfl, he⟩
        · exact .inl hb
        · simp only [ref1, List.cons.injEq, and_true] at he
          subst he
          exact .inr ⟨_, hR, hr', rfl⟩
      · cases h
    | mp r =>
      simp only [Option.bind_eq_some_iff, nth_eq] at h
      obtain ⟨row, hrow, h⟩ := h
      split at h
      · rename_i es0 fz
        simp only [Option.bind_eq_some_iff, Option.some.injEq] at h
        obtain ⟨l, hl, rfl⟩ := h
        have hR : R r := hin
        cases hv with | mp _ es' fz' hrow' =>
        obtain ⟨_, _, ents, clock, hh, hlen, hE⟩ := hok.rows r _ hrow
        obtain ⟨g1, g2⟩ := optMap_get hl
        have each : ∀ (j : Nat) k x, l[j]? = some [k, x] → ∃ ent, ents[j]? = some ent ∧ RepI w (Sof S ρ M.H R) k ent.key ∧ RepI w (Sof S ρ M.H R) x ent.val := fun j k x hj => by
          obtain ⟨p, hp, hf⟩ := g2 j _ hj
          obtain ⟨k0, x0⟩ := p
          simp only [Option.bind_eq_some_iff, Option.some.injEq, List.cons.injEq, and_true] at hf
          obtain ⟨y, hy, rfl, rfl⟩ := hf
          obtain ⟨ent, h1, h2, h3⟩ := hE j _ _ hp
          exact ⟨ent, h1, toI h2, view_snd hok hcl n x0 _ _ hy (hcl r _ hR hrow (k0, x0) (List.mem_of_getElem? hp) n) h3⟩
        refine .mp l (ρ r) ents clock (fun j => ((ents[j]?).map (·.key)).getD undef) (fun j => ((ents[j]?).map (·.val)).getD undef) (.inr ⟨r, hR, (List.getElem?_eq_some_iff.1 hrow).1, rfl⟩) hh (by omega) (fun j e hj => ?_) (fun j k x hj => ?_) (fun j k x hj => ?_) (fun j k x hj => ?_) (fun j k x hj => ?_)
        · obtain ⟨p, _, hf⟩ := g2 j _ hj
          simp only [Option.bind_eq_some_iff, Option.some.injEq] at hf
          obtain ⟨y, _, rfl⟩ := hf
          exact ⟨_, _, rfl⟩
        · obtain ⟨ent, h1, _⟩ := each j k x hj; simp [h1]
        · obtain ⟨ent, h1, _⟩ := each j k x hj; simp [h1]
        · obtain ⟨ent, h1, h2, _⟩ := each j k x hj; simpa [h1] using h2
        · obtain ⟨ent, h1, _, h2⟩ := each j k x hj; simpa [h1] using h2
      · cases h
    | fn f cap =>
      simp only [Option.bind_eq_some_iff, Option.some.injEq] at h
      obtain ⟨l, hl, rfl⟩ := h
      obtain ⟨cs, rfl, hr⟩ := hv.fnL
      obtain ⟨h1, cf, hcf, hrf⟩ := RepL.toI (list hl hin hr)
      exact .fn f l cs (by simpa using h1) cf (fun j x hj => by simpa using hcf j x hj) hrf
    | ag xs =>
      simp only [Option.bind_eq_some_iff, Option.some.injEq] at h
      obtain ⟨l, hl, rfl⟩ := h
      obtain ⟨cs, rfl, hr⟩ := hv.agL
      obtain ⟨h1, cf, hcf, hrf⟩ := RepL.toI (list hl hin hr)
      exact .ag l cs (by simpa using h1) cf (fun j x hj => by simpa using hcf j x hj) hrf

/-- Parts that are immutable only. -/
def flatRow : Row → Prop
  | .cs _ _ es _ _ => ∀ e, e ∈ es → ∀ x, x ∈ e → isM x = true
  | .mp es _ => ∀ p, p ∈ es → isM p.2 = true

theorem freezeRow_flat {row row' : Row} (h : freezeRow row = some row') : flatRow row ∧ flatRow row' := by
  cases row with
  | cs ty esz es base fz =>
    simp only [freezeRow, gd_some, Option.some.injEq] at h
    obtain ⟨h1, rfl⟩ := h
    have : ∀ e, e ∈ es → ∀ x, x ∈ e → isM x = true := fun e he x hx => List.all_eq_true.1 (List.all_eq_true.1 h1 e he) x hx
    exact ⟨this, this⟩
  | mp es fz =>
    simp only [freezeRow, gd_some, Option.some.injEq] at h
    obtain ⟨h1, rfl⟩ := h
    have : ∀ p, p ∈ es → isM p.2 = true := fun p hp => List.all_eq_true.1 h1 p hp
    exact ⟨this, this⟩

theorem setEl_set {α : Type} {l l' : List α} {i : Nat} {x : α} (h : setEl l i x = some l') : i < l.length ∧ l' = l.set i x := setEl_eq h

/-- One row frozen. -/
theorem freeze_one (hok : Ok w S ρ β M) {r : Nat} {row row' : Row} (hrow : M.H[r]? = some row) (h : freezeRow row = some row') :
    Ok w (fun b => S b ∨ b = ρ r) ρ β { M with H := M.H.set r row' } ∧ Stp w S ρ β M w (fun b => S b ∨ b = ρ r) ρ (M.H.set r row') := by
  have hρ : (fun k => if k = r then ρ r else ρ k) = ρ := by
    funext k
    by_cases c : k = r
    · rw [if_pos c, c]
    · rw [if_neg c]
  have key := Ok.setRow (w' := w) (S' := fun b => S b ∨ b = ρ r) (g := ρ r) (row' := row') hok hrow ⟨rfl, rfl, rfl, Nat.le_refl _, fun _ _ _ => rfl⟩ (.inl rfl) (fun b h => .inl h) (fun b h => h) (fun _ _ => rfl)
    (fun ty esz es base fz e => by
      subst e
      simp only [freezeRow, gd_some, Option.some.injEq] at h
      obtain ⟨_, rfl⟩ := h
      exact ⟨es, base, true, rfl, Nat.le_refl _, Nat.le_refl _, fun b ver _ _ hA => hA.same (fun _ _ => rfl) (fun _ h => .inl h) rfl, fun _ => ⟨rfl, fun cur mk hh => ⟨cur, mk, hh, rfl⟩⟩⟩)
    (fun es fz e => by
      subst e
      simp only [freezeRow, gd_some, Option.some.injEq] at h
      obtain ⟨_, rfl⟩ := h
      exact ⟨rfl, es, true, rfl⟩)
    (fun hto => by
      have hR := hok.rows r row hrow
      rw [hρ] at hto ⊢
      cases row with
      | cs ty esz es base fz =>
        simp only [freezeRow, gd_some, Option.some.injEq] at h
        obtain ⟨_, rfl⟩ := h
        obtain ⟨h1, h2, h3, h4, h5, cur, cap, mk, h6, h7, h8, h9, h10, h11⟩ := hR
        exact ⟨h1, h2, h3, fun _ => .inr rfl, fun e => (by cases e), cur, cap, mk, h6, fun e => (by cases e), h8, h9, h10, h11.mono hto⟩
      | mp es fz =>
        simp only [freezeRow, gd_some, Option.some.injEq] at h
        obtain ⟨_, rfl⟩ := h
        obtain ⟨h4, h5, ents, clock, h6, h7, h8⟩ := hR
        refine ⟨fun _ => .inr rfl, fun e => (by cases e), ents, clock, h6, h7, fun j k x hj => ?_⟩
        obtain ⟨ent, hent, hk, hx⟩ := h8 j k x hj
        exact ⟨ent, hent, hk.mono hto.hw hto.hS, hx.mono hto⟩)
  rw [hρ] at key
  exact key

theorem Stp.transW {S' S'' : Nat → Prop} {H' H'' : Hp} {β' : Nat → Nat} {B' : List (Nat × List V)} (h : Stp w S ρ β M w S' ρ H') (k : Stp w S' ρ β' ⟨B', H'⟩ w S'' ρ H'') (hl : H'.length = M.H.length) (hn : ∀ b, S'' b → S' b ∨ ∃ r, r < H'.length ∧ b = ρ r) (hn' : H''.length = H'.length) : Stp w S ρ β M w S'' ρ H'' where
  vals v c hv := k.vals v c (h.vals v c hv)
  stab b hb := k.stab b (h.stab b hb)
  heap _ _ := rfl
  keep _ _ _ _ := rfl
  news b hb := by
    rcases hn b hb with hb | ⟨r, hr, e⟩
    · exact h.news b hb
    · exact .inr (.inr ⟨r, by omega, e⟩)
  rown r hr := .inl ⟨r, by omega, rfl⟩
  size := Nat.le_refl _
  os := rfl
  tape := rfl
  output := rfl

theorem Sof_nil {R : Nat → Prop} (hR : ∀ r, ¬ R r) : Sof S ρ H R = S := by
  funext b
  apply propext
  constructor
  · rintro (h | ⟨r, h, _⟩)
    · exact h
    · exact absurd h (hR r)
  · exact .inl

/-- Rows frozen. -/
theorem freeze_snd : ∀ (rs : List Nat) {S : Nat → Prop} {M : Mem} {H' : Hp}, Ok w S ρ β M → freeze rs M.H = some H' →
    Ok w (Sof S ρ M.H (· ∈ rs)) ρ β { M with H := H' } ∧ Stp w S ρ β M w (Sof S ρ M.H (· ∈ rs)) ρ H' ∧ H'.length = M.H.length ∧ ∀ r, r ∈ rs → ∃ row, M.H[r]? = some row ∧ flatRow row
  | [], S, M, H', hok, h => by
    simp only [freeze, Option.some.injEq] at h
    subst h
    rw [Sof_nil (by simp)]
    exact ⟨hok, Stp.refl _ _ _ _ _, rfl, by simp⟩
  | r :: rs, S, M, H', hok, h => by
    simp only [freeze, Option.bind_eq_some_iff, nth_eq] at h
    obtain ⟨row, hrow, row', hrow', H1, hH1, h⟩ := h
    obtain ⟨hrl, rfl⟩ := setEl_set hH1
    obtain ⟨hok1, hst1⟩ := freeze_one hok hrow hrow'
    obtain ⟨hok2, hst2, hl2, hf2⟩ := freeze_snd rs hok1 h
    have hSe : Sof (fun b => S b ∨ b = ρ r) ρ (M.H.set r row') (· ∈ rs) = Sof S ρ M.H (· ∈ r :: rs) := by
      funext b
      apply propext
      simp only [Sof, List.length_set, List.mem_cons]
      constructor
      · rintro ((h | h) | ⟨k, h1, h2, h3⟩)
        · exact .inl h
        · exact .inr ⟨r, .inl rfl, hrl, h⟩
        · exact .inr ⟨k, .inr h1, h2, h3⟩
      · rintro (h | ⟨k, rfl | h1, h2, h3⟩)
        · exact .inl (.inl h)
        · exact .inl (.inr h3)
        · exact .inr ⟨k, h1, h2, h3⟩
    simp only at hok2 hst2 hl2
    rw [hSe] at hok2 hst2
    simp only [List.length_set] at hl2
    refine ⟨hok2, Stp.transW hst1 hst2 (by simp) (fun b hb => ?_) (by simpa using hl2), hl2, fun k hk => ?_⟩
    · rw [← hSe] at hb
      rcases hb with hb | ⟨k, _, h2, h3⟩
      · exact .inl hb
      · exact .inr ⟨k, h2, h3⟩
    · rcases List.mem_cons.1 hk with rfl | hk
      · exact ⟨row, hrow, (freezeRow_flat hrow').1⟩
      · obtain ⟨row2, h1, h2⟩ := hf2 k hk
        by_cases c : k = r
        · subst c
          exact ⟨row, hrow, (freezeRow_flat hrow').1⟩
        · simp only [List.getElem?_set_ne (Ne.symm c)] at h1
          exact ⟨row2, h1, h2⟩

theorem isM_in {R : Nat → Prop} {x : V} (h : isM x = true) (n : Nat) : InN R n x := by
  cases n with
  | zero => exact trivial
  | succ n => cases x <;> first | exact trivial | (simp [isM] at h)

/-- Frozen rows name nothing. -/
theorem rowCl_flat {R : Nat → Prop} (h : ∀ r, R r → ∃ row, H[r]? = some row ∧ flatRow row) : RowCl R H := fun r row hr hrow => by
  obtain ⟨row', h1, h2⟩ := h r hr
  rw [hrow] at h1
  cases h1
  cases row with
  | cs ty esz es base fz => exact fun e he x hx n => isM_in (h2 e he x hx) n
  | mp es fz => exact fun p hp n => isM_in (h2 p hp) n

theorem in_true : ∀ (n : Nat) (v : V), InN (fun _ => True) n v
  | 0, _ => trivial
  | n + 1, v => by cases v <;> first | exact trivial | exact fun x _ => in_true n x

theorem rowCl_true : RowCl (fun _ => True) H := fun r row _ _ => by
  cases row with
  | cs ty esz es base fz => exact fun e _ x _ n => in_true n x
  | mp es fz => exact fun p _ n => in_true n p.2

theorem shallow_in {x : V} (h : shallow x = true) {rs : List Nat} (hr : ∀ r, r ∈ refs x → r ∈ rs) (n : Nat) : InN (· ∈ rs) n x := by
  have one : ∀ (x : V) (n : Nat), shallow1 x = true → (∀ r, r ∈ ref1 x → r ∈ rs) → InN (· ∈ rs) n x := fun x n h hr => by
    cases n with
    | zero => exact trivial
    | succ n => cases x <;> first | exact trivial | (simp [shallow1] at h; done) | exact hr _ (by simp [ref1])
  cases n with
  | zero => exact trivial
  | succ n =>
    cases x with
    | fn f cap => exact fun y hy => one y n (List.all_eq_true.1 h y hy) fun r hr' => hr r (List.mem_flatMap.2 ⟨y, hy, hr'⟩)
    | ag cs => exact fun y hy => one y n (List.all_eq_true.1 h y hy) fun r hr' => hr r (List.mem_flatMap.2 ⟨y, hy, hr'⟩)
    | _ => exact one _ (n + 1) h hr
end
end Go.Mx
