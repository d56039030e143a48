/- Steps of memory: what a draw, a new block, a store, a new row, an append leave of the rows, the private boxes and the values. -/
import Derived.Test.YtaomjcmiaiokcaaDoorRep
namespace Go.Mx

/-- How rows turn in a step, as far as values look at them. -/
structure RowsTo (w : World) (S : Nat → Prop) (ρ : Nat → Nat) (H : Hp) (w' : World) (S' : Nat → Prop) (ρ' : Nat → Nat) (H' : Hp) : Prop where
  hw : ∀ b, S b → w'.heap[b]? = w.heap[b]?
  hS : ∀ b, S b → S' b
  cs : ∀ r ty esz es base fz, H[r]? = some (.cs ty esz es base fz) → ∃ es' base' fz', H'[r]? = some (.cs ty esz es' base' fz') ∧ es.length ≤ es'.length ∧ base ≤ base' ∧
    (∀ b ver, ver ≤ es.length → base' ≤ ver → At w S (ρ r) b ver esz es.length → At w' S' (ρ' r) b ver esz es'.length) ∧
    (es'.length = es.length → ρ' r = ρ r ∧ ∀ cur mk, w.heap[ρ r]? = some (.cells cur ty mk) → ∃ cur' mk', w'.heap[ρ r]? = some (.cells cur' ty mk') ∧ cur'.size = cur.size)
  mp : ∀ r es fz, H[r]? = some (.mp es fz) → ρ' r = ρ r ∧ ∃ es' fz', H'[r]? = some (.mp es' fz')

theorem RepV.mono {w w' : World} {S S' : Nat → Prop} {ρ ρ' : Nat → Nat} {H H' : Hp} (hto : RowsTo w S ρ H w' S' ρ' H') {v : V} {c : Value} (h : RepV w S ρ H v c) : RepV w' S' ρ' H' v c := by
  induction h with
  | m hI => exact .m (hI.mono hto.hw hto.hS)
  | un => exact .un
  | ls es a hI => exact .ls es a (hI.mono hto.hw hto.hS)
  | sl r ver esz st len lim ty es base fz a cap hrow h1 h2 h3 h4 h5 hn hb ha =>
    obtain ⟨es', base', fz', hrow', hlen, hbase, hat, hsame⟩ := hto.cs r ty esz es base fz hrow
    refine .sl r ver esz st len lim ty es' base' fz' a cap hrow' h1 (by omega) h3 h4 h5 hn (fun hv hl => ?_) (fun hv hs hl he => ?_)
    · obtain ⟨b, hab, hA⟩ := hb (by omega) hl
      exact ⟨b, hab, hat b ver h2 hv hA⟩
    · obtain ⟨hρ, hcur⟩ := hsame (by omega)
      obtain ⟨hab, cur, mk, hh, hsz⟩ := ha (by omega) hs hl (by omega)
      obtain ⟨cur', mk', hh', hsz'⟩ := hcur cur mk hh
      exact ⟨by rw [hρ]; exact hab, cur', mk', by rw [hρ]; exact hh', by rw [hsz', hsz]⟩
  | pt r ver ix off ty esz es base fz p hrow h2 hx hb =>
    obtain ⟨es', base', fz', hrow', hlen, hbase, hat, hsame⟩ := hto.cs r ty esz es base fz hrow
    refine .pt r ver ix off ty esz es' base' fz' p hrow' (by omega) hx (fun hv => ?_)
    obtain ⟨b, hp, hA⟩ := hb (by omega)
    exact ⟨b, hp, hat b ver h2 hv hA⟩
  | mp r es fz hrow =>
    obtain ⟨hρ, es', fz', hrow'⟩ := hto.mp r es fz hrow
    rw [← hρ]
    exact .mp r es' fz' hrow'
  | fn f xs cs hl c hc hr ih => exact .fn f xs cs hl c hc ih
  | ag xs cs hl c hc hr ih => exact .ag xs cs hl c hc ih
  | tu xs cs hl c hc hr ih => exact .tu xs cs hl c hc ih

section
variable {w w' : World} {S S' : Nat → Prop} {ρ ρ' β β' : Nat → Nat} {M M' : Mem}

theorem RepL.mono {H H' : Hp} (hto : RowsTo w S ρ H w' S' ρ' H') {xs : List V} {cs : List Value} (h : RepL w S ρ H xs cs) : RepL w' S' ρ' H' xs cs :=
  ⟨h.1, fun j x hj => let ⟨c, hc, hr⟩ := h.2 j x hj; ⟨c, hc, hr.mono hto⟩⟩

theorem RowsTo.stp (hto : RowsTo w S ρ M.H w' S' ρ' M'.H) {row : Option Nat} (hg : w.grownBy w' row)
    (hrow : ∀ b, row = some b → (∃ r, r < M.H.length ∧ b = ρ r) ∨ ∃ d, (getB M.B d).isSome ∧ b = β d)
    (hnews : ∀ b, S' b → S b ∨ w.heap.size ≤ b ∨ ∃ r, r < M.H.length ∧ b = ρ r) (hrn : ∀ r, r < M'.H.length → (∃ q, q < M.H.length ∧ ρ' r = ρ q) ∨ w.heap.size ≤ ρ' r) : Stp w S ρ β M w' S' ρ' M'.H where
  vals _ _ h := h.mono hto
  stab := hto.hS
  heap := hto.hw
  keep b hb hr hd := hg.block b hb (fun e => by
    rcases hrow b e.symm with ⟨r, hr', e⟩ | ⟨d, hd', e⟩
    · exact hr r hr' e
    · exact hd d hd' e)
  news := hnews
  rown := hrn
  size := hg.size
  os := hg.os
  tape := hg.tape
  output := hg.output

/-- A row that a step does not turn. -/
theorem At.same {g b ver esz n : Nat} (hw : ∀ b, S b → w'.heap[b]? = w.heap[b]?) (hS : ∀ b, S b → S' b) (hg : w'.heap[g]? = w.heap[g]?) (h : At w S g b ver esz n) : At w' S' g b ver esz n := by
  rcases h with h | ⟨hb, hv, he⟩
  · exact .inl h
  · refine .inr ⟨hS b hb, hv, fun j hj => ?_⟩
    rw [World.cell?_of_block (a := ⟨b, j, none⟩) (hw b hb), World.cell?_of_block (a := ⟨g, j, none⟩) hg]
    exact he j hj

theorem RowOk.same {H H' : Hp} {r : Nat} {row : Row} (hto : RowsTo w S ρ H w' S' ρ' H') (hρ : ρ' r = ρ r) (hg : w'.heap[ρ r]? = w.heap[ρ r]?) (hn : S' (ρ r) → S (ρ r)) (h : RowOk w S ρ H r row) : RowOk w' S' ρ' H' r row := by
  cases row with
  | cs ty esz es base fz =>
    obtain ⟨h1, h2, h3, h4, h5, cur, cap, mk, h6, h7, h8, h9, h10, h11⟩ := h
    refine ⟨h1, h2, h3, fun e => by rw [hρ]; exact hto.hS _ (h4 e), fun e hs => h5 e (hn (hρ ▸ hs)), cur, cap, mk, by rw [hρ, hg]; exact h6, h7, h8, h9, h10, h11.1, fun j x hj => ?_⟩
    obtain ⟨c, hc, hr⟩ := h11.2 j x hj
    exact ⟨c, hc, hr.mono hto⟩
  | mp es fz =>
    obtain ⟨h4, h5, ents, clock, h6, h7, h8⟩ := h
    refine ⟨fun e => by rw [hρ]; exact hto.hS _ (h4 e), fun e hs => h5 e (hn (hρ ▸ hs)), ents, clock, by rw [hρ, hg]; exact h6, h7, fun j k x hj => ?_⟩
    obtain ⟨ent, hent, hk, hx⟩ := h8 j k x hj
    exact ⟨ent, hent, hk.mono hto.hw hto.hS, hx.mono hto⟩

/-- (A) Nothing old turns; there may be new blocks, some of them stable. -/
theorem RowsTo.grow (hok : Ok w S ρ β M) (hg : w.grownBy w' none) (hS : ∀ b, S b → S' b) : RowsTo w S ρ M.H w' S' ρ M.H := by
  have old : ∀ b, b < w.heap.size → w'.heap[b]? = w.heap[b]? := fun b hb => hg.block b hb (by simp)
  refine ⟨fun b hb => old b (hok.lt b hb), hS, fun r ty esz es base fz hrow => ?_, fun r es fz hrow => ⟨rfl, es, fz, hrow⟩⟩
  have hlt := hok.rlt (List.getElem?_eq_some_iff.1 hrow).1
  exact ⟨es, base, fz, hrow, Nat.le_refl _, Nat.le_refl _, fun b ver _ _ hA => hA.same (fun b hb => old b (hok.lt b hb)) hS (old _ hlt), fun _ => ⟨rfl, fun cur mk h => ⟨cur, mk, by rw [old _ hlt]; exact h, rfl⟩⟩⟩

theorem Ok.grow (hok : Ok w S ρ β M) (hg : w.grownBy w' none) (hS : ∀ b, S b → S' b) (hn : ∀ b, S' b → S b ∨ w.heap.size ≤ b) (hl : ∀ b, S' b → b < w'.heap.size) :
    Ok w' S' ρ β M ∧ Stp w S ρ β M w' S' ρ M.H := by
  have hto := RowsTo.grow hok hg hS
  have old : ∀ b, b < w.heap.size → w'.heap[b]? = w.heap[b]? := fun b hb => hg.block b hb (by simp)
  refine ⟨⟨fun r row hrow => ?_, fun d cs hd => ?_, hok.inj, hok.bij, hok.rb, fun d hd hs => ?_, hl⟩, hto.stp (M := M) (M' := M) hg (by simp) (fun b hb => (hn b hb).imp id .inl) fun r h => .inl ⟨r, h, rfl⟩⟩
  · have hlt := hok.rlt (List.getElem?_eq_some_iff.1 hrow).1
    exact (hok.rows r row hrow).same hto rfl (old _ hlt) (fun hs => (hn _ hs).resolve_right (by omega))
  · have hlt := hok.blt (d := d) (by simp [hd])
    obtain ⟨cur, T, hh, hr⟩ := hok.boxes d cs hd
    exact ⟨cur, T, by rw [old _ hlt]; exact hh, hr.mono hto⟩
  · have hlt := hok.blt hd
    exact hok.bns d hd ((hn _ hs).resolve_right (by omega))

/-- (B) A new row in a new block. -/
theorem Ok.newRow (hok : Ok w S ρ β M) (hg : w.grownBy w' none) (hS : ∀ b, S b → S' b) (hn : ∀ b, S' b → S b ∨ w.heap.size ≤ b) (hl : ∀ b, S' b → b < w'.heap.size) {g : Nat} {row : Row}
    (hgn : w.heap.size ≤ g) (hrow : RowsTo w S ρ M.H w' S' (fun r => if r = M.H.length then g else ρ r) (M.H ++ [row]) → RowOk w' S' (fun r => if r = M.H.length then g else ρ r) (M.H ++ [row]) M.H.length row) :
    Ok w' S' (fun r => if r = M.H.length then g else ρ r) β { M with H := M.H ++ [row] } ∧ Stp w S ρ β M w' S' (fun r => if r = M.H.length then g else ρ r) (M.H ++ [row]) := by
  have old : ∀ b, b < w.heap.size → w'.heap[b]? = w.heap[b]? := fun b hb => hg.block b hb (by simp)
  have hA := RowsTo.grow hok hg hS
  have hρ : ∀ r, r < M.H.length → (if r = M.H.length then g else ρ r) = ρ r := fun r hr => if_neg (by omega)
  have hto : RowsTo w S ρ M.H w' S' (fun r => if r = M.H.length then g else ρ r) (M.H ++ [row]) := by
    refine ⟨hA.hw, hA.hS, fun r ty esz es base fz hr => ?_, fun r es fz hr => ?_⟩
    · have hlt := (List.getElem?_eq_some_iff.1 hr).1
      obtain ⟨es', base', fz', h1, h2, h3, h4, h5⟩ := hA.cs r ty esz es base fz hr
      exact ⟨es', base', fz', by rw [List.getElem?_append_left hlt]; exact h1, h2, h3, fun b ver a1 a2 a3 => by rw [hρ r hlt]; exact h4 b ver a1 a2 a3, fun e => by rw [hρ r hlt]; exact h5 e⟩
    · have hlt := (List.getElem?_eq_some_iff.1 hr).1
      exact ⟨hρ r hlt, es, fz, by rw [List.getElem?_append_left hlt]; exact hr⟩
  have hR := hrow hto
  have hgl : g < w'.heap.size := by
    have hh : ∃ o, w'.heap[g]? = some o := by
      cases row with
      | cs ty esz es base fz => obtain ⟨_, _, _, _, _, cur, cap, mk, hh, _⟩ := hR; exact ⟨_, by simpa using hh⟩
      | mp es fz => obtain ⟨_, _, ents, clock, hh, _⟩ := hR; exact ⟨_, by simpa using hh⟩
    obtain ⟨o, hh⟩ := hh
    exact (Array.getElem?_eq_some_iff.1 hh).1
  refine ⟨⟨fun r row' hr => ?_, fun d cs hd => ?_, fun r r' h1 h2 e => ?_, hok.bij, fun r d h1 h2 e => ?_, fun d hd hs => ?_, hl⟩, hto.stp (M := M) (M' := { M with H := M.H ++ [row] }) hg (by simp) (fun b hb => (hn b hb).imp id .inl) fun r h => (by
      by_cases c : r = M.H.length
      · exact .inr (by rw [if_pos c]; exact hgn)
      · simp only [List.length_append, List.length_cons, List.length_nil] at h
        exact .inl ⟨r, by omega, if_neg c⟩)⟩
  · by_cases hlt : r < M.H.length
    · simp only [List.getElem?_append_left hlt] at hr
      have hrl := hok.rlt hlt
      exact (hok.rows r row' hr).same hto (hρ r hlt) (old _ hrl) (fun hs => (hn _ hs).resolve_right (by omega))
    · have hr2 := (List.getElem?_eq_some_iff.1 hr).1
      simp only [List.length_append, List.length_cons, List.length_nil] at hr2
      have hre : r = M.H.length := by omega
      subst hre
      simp at hr
      subst hr
      exact hR
  · have hlt := hok.blt (d := d) (by simpa using (by rw [hd]; rfl : (getB M.B d).isSome = true))
    obtain ⟨cur, T, hh, hr⟩ := hok.boxes d cs hd
    exact ⟨cur, T, by rw [old _ hlt]; exact hh, hr.mono hto⟩
  · simp only [List.length_append, List.length_cons, List.length_nil] at h1 h2
    by_cases c1 : r = M.H.length <;> by_cases c2 : r' = M.H.length
    · omega
    · rw [if_pos c1, if_neg c2] at e
      have := hok.rlt (r := r') (by omega)
      omega
    · rw [if_neg c1, if_pos c2] at e
      have := hok.rlt (r := r) (by omega)
      omega
    · rw [if_neg c1, if_neg c2] at e
      exact hok.inj r r' (by omega) (by omega) e
  · simp only [List.length_append, List.length_cons, List.length_nil] at h1
    by_cases c1 : r = M.H.length
    · rw [if_pos c1] at e
      have := hok.blt h2
      omega
    · rw [if_neg c1] at e
      exact hok.rb r d (by omega) h2 e
  · have hlt := hok.blt hd
    exact hok.bns d hd ((hn _ hs).resolve_right (by omega))

theorem beqf {a b : Nat} (h : a ≠ b) : Nat.beq a b = false := by
  cases hb : Nat.beq a b with
  | true => exact absurd (Nat.eq_of_beq_eq_true hb) h
  | false => rfl

theorem getB_setB (B : List (Nat × List V)) (d : Nat) (cs : List V) (k : Nat) : getB (setB B d cs) k = if k = d then some cs else getB B k := by
  induction B with
  | nil =>
    simp only [setB, getB]
    by_cases h : k = d
    · subst h; simp
    · rw [if_neg h]
      have : Nat.beq d k = false := beqf fun e => h e.symm
      rw [this]
  | cons p r ih =>
    obtain ⟨a, x⟩ := p
    simp only [setB]
    cases hab : Nat.beq a d with
    | true =>
      have hab' := Nat.eq_of_beq_eq_true hab
      subst hab'
      simp only [getB]
      by_cases h : k = a
      · subst h; simp
      · rw [if_neg h]
        have : Nat.beq a k = false := beqf fun e => h e.symm
        rw [this]
    | false =>
      have hab' : a ≠ d := Nat.ne_of_beq_eq_false hab
      simp only [getB]
      cases hak : Nat.beq a k with
      | true =>
        have hak' := Nat.eq_of_beq_eq_true hak
        rw [if_neg (by omega)]
      | false => exact ih

/-- (C1) A new private box. -/
theorem Ok.newBox (hok : Ok w S ρ β M) (hg : w.grownBy w' none) (hS : ∀ b, S b → S' b) (hn : ∀ b, S' b → S b ∨ w.heap.size ≤ b) (hl : ∀ b, S' b → b < w'.heap.size) {g d : Nat} {cs : List V} {cur : Array Value} {T : TypeId}
    (hgn : w.heap.size ≤ g) (hgS : ¬ S' g) (hcur : w'.heap[g]? = some (.cells cur T (0, 0))) (hr : RepL w S ρ M.H cs cur.toList) :
    Ok w' S' ρ (fun k => if k = d then g else β k) { M with B := setB M.B d cs } ∧ Stp w S ρ β M w' S' ρ M.H := by
  obtain ⟨hok', hst⟩ := hok.grow hg hS hn hl
  refine ⟨⟨hok'.rows, fun k cs' hk => ?_, hok'.inj, fun k k' h1 h2 e => ?_, fun r k h1 h2 e => ?_, fun k hk hs => ?_, hl⟩, hst⟩
  · simp only [getB_setB] at hk
    by_cases h : k = d
    · rw [if_pos h] at hk
      cases hk
      rw [if_pos h]
      exact ⟨cur, T, hcur, hst.list hr⟩
    · rw [if_neg h] at hk
      rw [if_neg h]
      exact hok'.boxes k cs' hk
  · simp only [getB_setB] at h1 h2
    by_cases c1 : k = d <;> by_cases c2 : k' = d
    · omega
    · rw [if_pos c1, if_neg c2] at e
      rw [if_neg c2] at h2
      have := hok.blt h2
      omega
    · rw [if_neg c1, if_pos c2] at e
      rw [if_neg c1] at h1
      have := hok.blt h1
      omega
    · rw [if_neg c1, if_neg c2] at e
      rw [if_neg c1] at h1
      rw [if_neg c2] at h2
      exact hok.bij k k' h1 h2 e
  · simp only [getB_setB] at h2
    by_cases c : k = d
    · rw [if_pos c] at e
      have := hok.rlt h1
      omega
    · rw [if_neg c] at e h2
      exact hok.rb r k h1 h2 e
  · simp only [getB_setB] at hk
    by_cases c : k = d
    · rw [if_pos c] at hs; exact hgS hs
    · rw [if_neg c] at hk hs
      exact hok'.bns k hk hs

/-- (C2) A private box turns. -/
theorem Ok.setBox (hok : Ok w S ρ β M) {d : Nat} (hd : (getB M.B d).isSome) (hg : w.grownBy w' (some (β d))) {cs : List V} {cur : Array Value} {T : TypeId}
    (hcur : w'.heap[β d]? = some (.cells cur T (0, 0))) (hr : RepL w S ρ M.H cs cur.toList) :
    Ok w' S ρ β { M with B := setB M.B d cs } ∧ Stp w S ρ β M w' S ρ M.H := by
  have old : ∀ b, b < w.heap.size → b ≠ β d → w'.heap[b]? = w.heap[b]? := fun b hb hne => hg.block b hb (by simpa using hne)
  have hst : ∀ b, S b → w'.heap[b]? = w.heap[b]? := fun b hb => old b (hok.lt b hb) (fun e => hok.bns d hd (e ▸ hb))
  have hrw : ∀ r, r < M.H.length → w'.heap[ρ r]? = w.heap[ρ r]? := fun r hr => old _ (hok.rlt hr) (hok.rb r d hr hd)
  have hto : RowsTo w S ρ M.H w' S ρ M.H := by
    refine ⟨hst, fun _ h => h, fun r ty esz es base fz hrow => ?_, fun r es fz hrow => ⟨rfl, es, fz, hrow⟩⟩
    have hlt := (List.getElem?_eq_some_iff.1 hrow).1
    exact ⟨es, base, fz, hrow, Nat.le_refl _, Nat.le_refl _, fun b ver _ _ hA => hA.same hst (fun _ h => h) (hrw r hlt), fun _ => ⟨rfl, fun cur mk h => ⟨cur, mk, by rw [hrw r hlt]; exact h, rfl⟩⟩⟩
  refine ⟨⟨fun r row hrow => ?_, fun k cs' hk => ?_, hok.inj, fun k k' h1 h2 e => ?_, fun r k h1 h2 e => ?_, fun k hk hs => ?_, fun b hb => Nat.lt_of_lt_of_le (hok.lt b hb) hg.size⟩,
    hto.stp (M := M) (M' := M) hg (fun b e => .inr ⟨d, hd, by simpa using e.symm⟩) (fun b hb => .inl hb) fun r h => .inl ⟨r, h, rfl⟩⟩
  · have hlt := (List.getElem?_eq_some_iff.1 hrow).1
    exact (hok.rows r row hrow).same hto rfl (hrw r hlt) id
  · simp only [getB_setB] at hk
    by_cases h : k = d
    · subst h
      rw [if_pos rfl] at hk
      cases hk
      exact ⟨cur, T, hcur, hr.mono hto⟩
    · rw [if_neg h] at hk
      obtain ⟨cur', T', hh, hr'⟩ := hok.boxes k cs' hk
      have hkl := hok.blt (d := k) (by simp [hk])
      exact ⟨cur', T', by rw [old _ hkl (fun e => h (hok.bij k d (by simp [hk]) hd e))]; exact hh, hr'.mono hto⟩
  · simp only [getB_setB] at h1 h2
    refine hok.bij k k' ?_ ?_ e
    · by_cases c : k = d
      · subst c; exact hd
      · rwa [if_neg c] at h1
    · by_cases c : k' = d
      · subst c; exact hd
      · rwa [if_neg c] at h2
  · simp only [getB_setB] at h2
    refine hok.rb r k h1 ?_ e
    by_cases c : k = d
    · subst c; exact hd
    · rwa [if_neg c] at h2
  · simp only [getB_setB] at hk
    refine hok.bns k ?_ hs
    by_cases c : k = d
    · subst c; exact hd
    · rwa [if_neg c] at hk

/-- (D) A row turns in its own block, or moves into a new one (then the old block is stable from now on). -/
theorem Ok.setRow (hok : Ok w S ρ β M) {r g : Nat} {row row' : Row} (hrow : M.H[r]? = some row) (hg : w.grownBy w' (some (ρ r)))
    (hgg : g = ρ r ∨ w.heap.size ≤ g)
    (hS : ∀ b, S b → S' b) (hn : ∀ b, S' b → S b ∨ b = ρ r) (hSw : ∀ b, S b → w'.heap[b]? = w.heap[b]?)
    (hcs : ∀ ty esz es base fz, row = .cs ty esz es base fz → ∃ es' base' fz', row' = .cs ty esz es' base' fz' ∧ es.length ≤ es'.length ∧ base ≤ base' ∧
      (∀ b ver, ver ≤ es.length → base' ≤ ver → At w S (ρ r) b ver esz es.length → At w' S' g b ver esz es'.length) ∧
      (es'.length = es.length → g = ρ r ∧ ∀ cur mk, w.heap[ρ r]? = some (.cells cur ty mk) → ∃ cur' mk', w'.heap[ρ r]? = some (.cells cur' ty mk') ∧ cur'.size = cur.size))
    (hmp : ∀ es fz, row = .mp es fz → g = ρ r ∧ ∃ es' fz', row' = .mp es' fz')
    (hro : RowsTo w S ρ M.H w' S' (fun k => if k = r then g else ρ k) (M.H.set r row') → RowOk w' S' (fun k => if k = r then g else ρ k) (M.H.set r row') r row') :
    Ok w' S' (fun k => if k = r then g else ρ k) β { M with H := M.H.set r row' } ∧ Stp w S ρ β M w' S' (fun k => if k = r then g else ρ k) (M.H.set r row') := by
  have hrl := (List.getElem?_eq_some_iff.1 hrow).1
  have old : ∀ b, b < w.heap.size → b ≠ ρ r → w'.heap[b]? = w.heap[b]? := fun b hb hne => hg.block b hb (by simpa using hne)
  have hrw : ∀ k, k < M.H.length → k ≠ r → w'.heap[ρ k]? = w.heap[ρ k]? := fun k hk hne => old _ (hok.rlt hk) (fun e => hne (hok.inj k r hk hrl e))
  have hto : RowsTo w S ρ M.H w' S' (fun k => if k = r then g else ρ k) (M.H.set r row') := by
    refine ⟨hSw, hS, fun k ty esz es base fz hk => ?_, fun k es fz hk => ?_⟩
    · have hlt := (List.getElem?_eq_some_iff.1 hk).1
      by_cases c : k = r
      · subst c
        rw [hrow] at hk
        obtain ⟨es', base', fz', h1, h2, h3, h4, h5⟩ := hcs ty esz es base fz (Option.some.inj hk)
        refine ⟨es', base', fz', by simp [hrl, h1], h2, h3, fun b ver a1 a2 a3 => by rw [if_pos rfl]; exact h4 b ver a1 a2 a3, fun e => by rw [if_pos rfl]; exact h5 e⟩
      · refine ⟨es, base, fz, by rw [List.getElem?_set_ne (Ne.symm c)]; exact hk, Nat.le_refl _, Nat.le_refl _, fun b ver _ _ hA => ?_, fun _ => ?_⟩
        · rw [if_neg c]; exact hA.same hSw hS (hrw k hlt c)
        · rw [if_neg c]; exact ⟨rfl, fun cur mk h => ⟨cur, mk, by rw [hrw k hlt c]; exact h, rfl⟩⟩
    · by_cases c : k = r
      · subst c
        rw [hrow] at hk
        obtain ⟨h1, es', fz', h2⟩ := hmp es fz (Option.some.inj hk)
        exact ⟨by rw [if_pos rfl]; exact h1, es', fz', by simp [hrl, h2]⟩
      · exact ⟨by rw [if_neg c], es, fz, by rw [List.getElem?_set_ne (Ne.symm c)]; exact hk⟩
  have hR := hro hto
  have hgl : g < w'.heap.size := by
    have hh : ∃ o, w'.heap[g]? = some o := by
      cases row' with
      | cs ty esz es base fz => obtain ⟨_, _, _, _, _, cur, cap, mk, hh, _⟩ := hR; exact ⟨_, by simpa using hh⟩
      | mp es fz => obtain ⟨_, _, ents, clock, hh, _⟩ := hR; exact ⟨_, by simpa using hh⟩
    obtain ⟨o, hh⟩ := hh
    exact (Array.getElem?_eq_some_iff.1 hh).1
  have hne : ∀ k, k < M.H.length → k ≠ r → g ≠ ρ k := fun k hk hkr e => by
    rcases hgg with h | h
    · exact hkr (hok.inj k r hk hrl (by omega))
    · have := hok.rlt hk; omega
  refine ⟨⟨fun k row'' hk => ?_, fun d cs hd => ?_, fun k k' h1 h2 e => ?_, hok.bij, fun k d h1 h2 e => ?_, fun d hd hs => ?_, fun b hb => ?_⟩,
    hto.stp (M := M) (M' := { M with H := M.H.set r row' }) hg (fun b e => .inl ⟨r, hrl, by simpa using e.symm⟩) (fun b hb => (hn b hb).imp id fun e => .inr ⟨r, hrl, e⟩) fun k h => (by
      simp only [List.length_set] at h
      by_cases c : k = r
      · rcases hgg with e | e
        · exact .inl ⟨r, hrl, by rw [if_pos c]; exact e⟩
        · exact .inr (by rw [if_pos c]; exact e)
      · exact .inl ⟨k, h, if_neg c⟩)⟩
  · by_cases c : k = r
    · subst c
      simp [hrl] at hk
      subst hk
      exact hR
    · simp only [List.getElem?_set_ne (Ne.symm c)] at hk
      have hlt := (List.getElem?_eq_some_iff.1 hk).1
      exact (hok.rows k row'' hk).same hto (if_neg c) (hrw k hlt c) (fun hs => (hn _ hs).resolve_right (fun e => c (hok.inj k r hlt hrl e)))
  · have hlt := hok.blt (d := d) (by simpa using (by rw [hd]; rfl : (getB M.B d).isSome = true))
    obtain ⟨cur, T, hh, hr⟩ := hok.boxes d cs hd
    refine ⟨cur, T, by rw [old _ hlt (fun e => hok.rb r d hrl (by simpa using (by rw [hd]; rfl : (getB M.B d).isSome = true)) e.symm)]; exact hh, hr.mono hto⟩
  · simp only [List.length_set] at h1 h2
    by_cases c1 : k = r <;> by_cases c2 : k' = r
    · omega
    · rw [if_pos c1, if_neg c2] at e
      exact absurd e (hne k' h2 c2)
    · rw [if_neg c1, if_pos c2] at e
      exact absurd e.symm (hne k h1 c1)
    · rw [if_neg c1, if_neg c2] at e
      exact hok.inj k k' h1 h2 e
  · simp only [List.length_set] at h1
    by_cases c : k = r
    · rw [if_pos c] at e
      rcases hgg with h | h
      · exact hok.rb r d hrl h2 (by omega)
      · have := hok.blt h2; omega
    · rw [if_neg c] at e
      exact hok.rb k d h1 h2 e
  · rcases hn _ hs with h | h
    · exact hok.bns d hd h
    · exact hok.rb r d hrl hd h.symm
  · rcases hn _ hb with h | h
    · exact Nat.lt_of_lt_of_le (hok.lt b h) hg.size
    · rw [h]; exact Nat.lt_of_lt_of_le (hok.rlt hrl) hg.size
end
end Go.Mx
