/- Steps one after the other; slice literals whose parts are frozen. -/
import Derived.Test.YtaomjcmiaiokcaaDoorSndL
namespace Go.Mx
section
variable {P : Program} {w w1 w2 : World} {S S1 S2 : Nat → Prop} {ρ ρ1 ρ2 β β1 : Nat → Nat} {M M1 M' : Mem} {H H2 : Hp} {o : Oper} {a : Act} {vs : List V} {v : V} {call : Call}

theorem Stp.trans (h : Stp w S ρ β M w1 S1 ρ1 M1.H) (hb : ∀ d, (getB M1.B d).isSome → (∃ q, (getB M.B q).isSome ∧ β1 d = β q) ∨ w.heap.size ≤ β1 d) (k : Stp w1 S1 ρ1 β1 M1 w2 S2 ρ2 H2) : Stp w S ρ β M w2 S2 ρ2 H2 where
  vals v c hv := k.vals v c (h.vals v c hv)
  stab b hb := k.stab b (h.stab b hb)
  heap b hb := (k.heap b (h.stab b hb)).trans (h.heap b hb)
  keep b hlt hr hd := by
    refine (k.keep b (Nat.lt_of_lt_of_le hlt h.size) (fun r hr' e => ?_) (fun d hd' e => ?_)).trans (h.keep b hlt hr hd)
    · rcases h.rown r hr' with ⟨q, hq, e'⟩ | e'
      · exact hr q hq (e.trans e')
      · omega
    · rcases hb d hd' with ⟨q, hq, e'⟩ | e'
      · exact hd q hq (e.trans e')
      · omega
  news b hb := by
    rcases k.news b hb with hb | hb | ⟨r, hr, e⟩
    · exact h.news b hb
    · exact .inr (.inl (Nat.le_trans h.size hb))
    · rcases h.rown r hr with ⟨q, hq, e'⟩ | e'
      · exact .inr (.inr ⟨q, hq, e.trans e'⟩)
      · exact .inr (.inl (by omega))
  rown r hr := by
    rcases k.rown r hr with ⟨q, hq, e⟩ | e
    · rcases h.rown q hq with ⟨q', hq', e'⟩ | e'
      · exact .inl ⟨q', hq', e.trans e'⟩
      · exact .inr (by omega)
    · exact .inr (Nat.le_trans h.size e)
  size := Nat.le_trans h.size k.size
  os := k.os.trans h.os
  tape := k.tape.trans h.tape
  output := k.output.trans h.output

theorem view_list {R : Nat → Prop} (hok : Ok w S ρ β M) (hcl : RowCl R M.H) {n : Nat} {xs : List V} {l : List I} {cs : List Value} (h1 : optMap (view n M.H) xs = some l) (h2 : ∀ x, x ∈ xs → InN R n x) (h3 : RepL w S ρ M.H xs cs) : LI w (Sof S ρ M.H R) l cs := by
  obtain ⟨g1, g2⟩ := optMap_get h1
  refine ⟨by rw [List.length_map, g1]; exact h3.1, fun j y hj => ?_⟩
  rw [List.getElem?_map] at hj
  obtain ⟨z, hz, rfl⟩ := Option.map_eq_some_iff.1 hj
  obtain ⟨x, hx, hf⟩ := g2 j z hz
  obtain ⟨c, hc, hr⟩ := h3.2 j x hx
  exact ⟨c, hc, .m (view_snd hok hcl n x c z hf (h2 x (List.mem_of_getElem? hx)) hr)⟩

theorem LI.mono (hw : ∀ b, S b → w1.heap[b]? = w.heap[b]?) (hS : ∀ b, S b → S1 b) {l : List I} {cs : List Value} (h : LI w S l cs) : LI w1 S1 l cs := by
  refine ⟨h.1, fun j x hj => ?_⟩
  obtain ⟨c, hc, hr⟩ := h.2 j x hj
  rw [List.getElem?_map] at hj
  obtain ⟨z, hz, rfl⟩ := Option.map_eq_some_iff.1 hj
  exact ⟨c, hc, .m (hr.imm.mono hw hS)⟩

theorem LI.toL {l : List I} {cs : List Value} (h : LI w S l cs) : RepL w S ρ H (l.map .m) cs := by
  refine ⟨h.1, fun j x hj => ?_⟩
  obtain ⟨c, hc, hr⟩ := h.2 j x hj
  rw [List.getElem?_map] at hj
  obtain ⟨z, hz, rfl⟩ := Option.map_eq_some_iff.1 hj
  exact ⟨c, hc, .m hr.imm⟩

theorem shallow1_in {x : V} (h : shallow1 x = true) {rs : List Nat} (hr : ∀ r, r ∈ ref1 x → r ∈ rs) (n : Nat) : InN (· ∈ rs) n x := by
  cases n with
  | zero => exact trivial
  | succ n => cases x <;> first | exact trivial | (simp [shallow1] at h; done) | exact hr _ (by simp [ref1])

theorem cells_in {x y : V} {l : List V} (h : shallow x = true) {rs : List Nat} (hr : ∀ r, r ∈ refs x → r ∈ rs) (hl : cellsV x = some l) (hy : y ∈ l) (n : Nat) : InN (· ∈ rs) n y := by
  cases x with
  | m i =>
    cases i with
    | ag cs =>
      simp only [cellsV, Option.some.injEq] at hl
      subst hl
      obtain ⟨z, _, rfl⟩ := List.mem_map.1 hy
      exact isM_in rfl n
    | _ =>
      simp only [cellsV, Option.some.injEq] at hl
      subst hl
      rw [List.mem_singleton.1 hy]
      exact isM_in rfl n
  | ag cs =>
    simp only [cellsV, Option.some.injEq] at hl
    subst hl
    exact shallow1_in (List.all_eq_true.1 h y hy) (fun r hr' => hr r (List.mem_flatMap.2 ⟨y, hy, hr'⟩)) n
  | tu vs => simp [cellsV] at hl
  | un => simp [cellsV] at hl
  | fa d off => simp [cellsV] at hl
  | _ =>
    simp only [cellsV, Option.some.injEq] at hl
    subst hl
    rw [List.mem_singleton.1 hy]
    exact shallow_in h hr n

theorem fillEl_mem {esz : Nat} : ∀ (ps : List Nat) (xs : List V) (es es' : List (List V)), fillEl esz es ps xs = some es' → ∀ y, y ∈ es'.flatten → y ∈ es.flatten ∨ ∃ x, x ∈ xs ∧ ∃ l, cellsV x = some l ∧ y ∈ l
  | [], [], es, es', h, y, hy => by simp only [fillEl, Option.some.injEq] at h; subst h; exact .inl hy
  | [], _ :: _, es, es', h, y, hy => by simp [fillEl] at h
  | _ :: _, [], es, es', h, y, hy => by simp [fillEl] at h
  | p :: ps, x :: xs, es, es', h, y, hy => by
    simp only [fillEl, Option.bind_eq_some_iff, gd_some, Nat.beq_eq] at h
    obtain ⟨lx, hlx, hsz, es1, hes1, h⟩ := h
    obtain ⟨_, rfl⟩ := setEl_eq hes1
    rcases fillEl_mem ps xs _ es' h y hy with hy | ⟨z, hz, l, hl, hy⟩
    · obtain ⟨e, he, hye⟩ := List.mem_flatten.1 hy
      rcases List.mem_or_eq_of_mem_set he with he | he
      · exact .inl (List.mem_flatten.2 ⟨e, he, hye⟩)
      · subst he
        exact .inr ⟨x, by simp, _, hlx, hye⟩
    · exact .inr ⟨z, by simp [hz], l, hl, hy⟩

theorem toV_isM {c : Value} {x : V} (h : toV c = some x) : isM x = true := by
  unfold toV at h
  split at h <;> first | contradiction | (simp only [Option.some.injEq] at h; subst h; rfl)

theorem zeros_isM {t : TypeId} {zs : List V} (h : zeros P t = some zs) : ∀ x, x ∈ zs → isM x = true := by
  simp only [zeros, Option.bind_eq_some_iff, gd_some] at h
  obtain ⟨i, _, z, _, _, hm⟩ := h
  intro x hx
  obtain ⟨j, hj, rfl⟩ := List.getElem_of_mem hx
  obtain ⟨c, _, hf⟩ := (optMap_get hm).2 j _ (List.getElem?_eq_getElem hj)
  exact toV_isM hf

theorem snd_bsf {t e : TypeId} {n s : Nat} {ps : Array (Nat × Operand)} {zs : List V} (ho : o.op = .buildSlice t n ps) (hu : P.underlying t = some (.slice e)) (hs : sizeT P e = some s) (hlim : n * s ≤ 16777216) (hpos : 1 ≤ s) (hz : zeros P e = some zs)
    (hok : Ok w S ρ β M) (hv : All2 (RepX w S ρ β M.H) vs ((ps.toList.map (·.2)).map a.eval)) (he : loudX call M (.bsf s zs n (ps.toList.map (·.1))) vs = some (v, M')) :
    Outc w S ρ β M (.l (.bsf s zs n (ps.toList.map (·.1)))) v M' ((execOp a.eval o).run P w) := by
  simp only [loudX, Option.bind_eq_some_iff, gd_some, Option.some.injEq, Prod.mk.injEq] at he
  obtain ⟨es, hes, hsh, l, hl, H', hH', rfl, rfl⟩ := he
  obtain ⟨C', hrun, hR, hU, hlen⟩ := run_buildSlice (P := P) (w := w) (S := S) (ρ := ρ) (β := β) (H := M.H) (a := a) hu hs hlim hpos hz hv hes
  obtain ⟨hok1, hst1, hl1, hf1⟩ := freeze_snd _ hok hH'
  have hcl := rowCl_flat hf1
  have hin : ∀ x, x ∈ es.flatten → InN (· ∈ vs.flatMap refs) 20 x := fun x hx => by
    rcases fillEl_mem _ _ _ _ hes x hx with hx | ⟨y, hy, l, hl, hx⟩
    · obtain ⟨e, he, hxe⟩ := List.mem_flatten.1 hx
      rw [(List.mem_replicate.1 he).2] at hxe
      exact isM_in (zeros_isM hz x hxe) 20
    · exact cells_in (List.all_eq_true.1 hsh y hy) (fun r hr => List.mem_flatMap.2 ⟨y, hy, hr⟩) hl hx 20
  have hLI := view_list hok hcl (optMap_flat hl) hin hR
  obtain ⟨hok2, hst2⟩ := hok1.allocI (World.grownBy_alloc w (.cells C' e) none) (by simp)
  have hst := Stp.trans (M1 := { M with H := H' }) hst1 (fun d hd => .inl ⟨d, hd, rfl⟩) hst2
  have hUI := optMap_uni hl hU
  have hll := (optMap_get hl).1
  have hln : l.length ≤ maxLen := by
    have : n * 1 ≤ n * s := Nat.mul_le_mul_left _ hpos
    unfold maxLen; omega
  have hLI2 : LI (w.alloc (.cells C' e)) (Snew (Sof S ρ M.H (· ∈ vs.flatMap refs)) w) l.flatten C'.toList := hLI.mono (fun b hb => heap_alloc_old w _ b (hok1.lt b hb)) (fun b hb => .inl hb)
  have hCl := hLI2.len
  rw [hUI.len] at hCl
  have hI := RepI.ofRow (ρ := ρ) (H := H') (S := Snew (Sof S ρ M.H (· ∈ vs.flatMap refs)) w) (b := w.heap.size) (cap := l.length) (.inr rfl) (heap_alloc_new w (.cells C' e)) hUI (by rw [List.take_of_length_le (by omega)]; exact hLI2.toL) (Nat.le_refl _) hln
  refine ⟨.value (.slice (some ⟨w.heap.size, 0, none⟩) n n), _, w.alloc (.cells C' e), _, ρ, β, by simp [execOp, ho, hrun], .inl rfl, hok2, hst, RepX.ofV ?_, fun _ _ => rfl, fun d hd => .inl ⟨d, hd, rfl⟩⟩
  rw [← hlen, ← hll]
  exact .ls l _ hI
end
end Go.Mx
