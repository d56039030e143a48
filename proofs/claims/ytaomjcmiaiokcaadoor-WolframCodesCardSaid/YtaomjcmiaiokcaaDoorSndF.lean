/- Slices laid anew in a block of their own: literals, '[]byte(s)'; slice data. -/
import Derived.Test.YtaomjcmiaiokcaaDoorSndE
namespace Go.Mx
section
variable {P : Program} {w : World} {S : Nat → Prop} {ρ β : Nat → Nat} {M : Mem} {H : Hp} {o : Oper} {a : Act} {vs : List V} {v : V}

theorem grown_drew_alloc (w : World) (x : Obj) : w.grownBy (w.drew.alloc x) none := ⟨rfl, rfl, rfl, by simp, fun k hk _ => heap_alloc_old w x k hk⟩

theorem run_newRow (w : World) (e : TypeId) (cs : Array Value) : (Go.newRow e cs).run P w = .ok ⟨w.heap.size, 0, none⟩ (w.alloc (.cells cs e)) := rfl

/-- One more stable block. -/
def Snew (S : Nat → Prop) (w : World) : Nat → Prop := fun b => S b ∨ b = w.heap.size

theorem Ok.allocI (hok : Ok w S ρ β M) {w' : World} (hg : w.grownBy w' none) (hs : w'.heap.size = w.heap.size + 1) : Ok w' (Snew S w) ρ β M ∧ Stp w S ρ β M w' (Snew S w) ρ M.H :=
  hok.grow hg (fun _ h => .inl h) (fun b h => h.imp id (fun e => by omega)) (fun b h => by
    rcases h with h | h
    · have := hok.lt b h; omega
    · omega)

theorem optMap_allM : ∀ {es : List (List V)} {l : List (List I)}, optMap allM es = some l → es = immS l
  | [], l, h => by simp [optMap] at h; subst h; rfl
  | e :: es, l, h => by
    simp only [optMap, Option.bind_eq_some_iff, Option.some.injEq] at h
    obtain ⟨x, hx, l', hl, rfl⟩ := h
    rw [allM_eq hx, optMap_allM hl]
    rfl

theorem immS_flat (l : List (List I)) : (immS l).flatten = l.flatten.map .m := by rw [immS, List.map_flatten]
theorem immS_len (l : List (List I)) : (immS l).length = l.length := by simp [immS]
theorem immS_uni {n : Nat} {l : List (List I)} (h : Uni n (immS l)) : Uni n l := fun e he => by
  have := h (e.map .m) (by simp only [immS, List.mem_map]; exact ⟨e, he, rfl⟩)
  simpa using this
theorem uni_immS {n : Nat} {l : List (List I)} (h : Uni n l) : Uni n (immS l) := fun e he => by
  simp only [immS, List.mem_map] at he
  obtain ⟨e', he', rfl⟩ := he
  simpa using h e' he'

/-- A slice of immutable values over a stable row. -/
theorem RepI.ofRow {es : List (List I)} {esz b cap : Nat} {cur : Array Value} {T : TypeId} {mk : Nat × Nat} (hS : S b) (hh : w.heap[b]? = some (.cells cur T mk)) (hu : Uni esz es) (hr : RepL w S ρ H (es.flatten.map .m) (cur.toList.take (es.length * esz)))
    (hcap : es.length ≤ cap) (hm : cap ≤ maxLen) : RepI w S (.sl es) (.slice (some ⟨b, 0, none⟩) es.length cap) := by
  obtain ⟨hl, c, hc, hx⟩ := hr.toI
  refine .sl es (some ⟨b, 0, none⟩) cap esz b 0 (fun i j => c (i * esz + j)) hcap hm hu (fun _ => ⟨rfl, hS⟩) (fun i e j x hi hj => ?_) (fun i e j x hi hj => ?_)
  · have hf := flat_cell hu hi hj
    have h1 := hc _ _ hf
    rw [List.getElem?_take] at h1
    split at h1
    · rw [Nat.zero_add, cell_of_row w b _ cur T mk hh]
      simpa using h1
    · cases h1
  · exact hx _ _ (flat_cell hu hi hj)

theorem fillEl_snd {esz : Nat} : ∀ (ps : List Nat) (parts : List (Nat × Value)) (xs : List V) (es es' : List (List V)) (C : Array Value), fillEl esz es ps xs = some es' → Uni esz es → RepL w S ρ H es.flatten C.toList → All2 (RepX w S ρ β H) xs (parts.map (·.2)) →
    ps = parts.map (·.1) → ∃ C', Instr.fill (fun i => some (i * esz, esz)) C parts = some C' ∧ RepL w S ρ H es'.flatten C'.toList ∧ Uni esz es' ∧ es'.length = es.length
  | [], parts, xs, es, es', C, h, hu, hc, hx, hp => by
    cases xs with
    | nil =>
      simp only [fillEl, Option.some.injEq] at h
      subst h
      cases parts with
      | nil => exact ⟨C, rfl, hc, hu, rfl⟩
      | cons p ps => cases hx
    | cons x xs => simp [fillEl] at h
  | p :: ps, parts, xs, es, es', C, h, hu, hc, hx, hp => by
    cases xs with
    | nil => simp [fillEl] at h
    | cons x xs =>
      simp only [fillEl, Option.bind_eq_some_iff, gd_some, Nat.beq_eq] at h
      obtain ⟨lx, hlx, hsz, es1, hes1, h⟩ := h
      cases parts with
      | nil => cases hx
      | cons q parts =>
        obtain ⟨i, c⟩ := q
        cases hx with | cons hc0 hx =>
        simp only [List.map_cons, List.cons.injEq] at hp
        obtain ⟨rfl, hp⟩ := hp
        obtain ⟨hlt, rfl⟩ := setEl_eq hes1
        have hcl := RepX.cells hc0 hlx
        have hcsz : c.cells.size = esz := by have := hcl.1; simp at this; omega
        have hfl := hu.len
        have hcl2 := hc.1
        simp only [Array.length_toList] at hcl2
        have hle : p * esz + esz ≤ es.length * esz := by
          have := Nat.mul_le_mul_right esz (Nat.succ_le_of_lt hlt)
          rw [Nat.succ_mul] at this
          exact this
        have h1 : RepL w S ρ H (es.set p lx).flatten (C.toList.take (p * esz) ++ c.cells.toList ++ C.toList.drop (p * esz + esz)) := by
          rw [flat_set hu hlt hsz]
          exact ((hc.take _).append hcl).append (hc.drop _)
        rw [← hcsz, ← fill_put c.cells (p * c.cells.size) C (by rw [hcsz]; omega)] at h1
        obtain ⟨C', hC', hl', hu', hlen⟩ := fillEl_snd ps parts xs (es.set p lx) es' _ h (hu.set hsz) h1 hx hp
        refine ⟨C', ?_, hl', hu', by simpa using hlen⟩
        simp only [Instr.fill]
        rw [if_neg (by simp; omega)]
        rw [hcsz] at hC'
        exact hC'

theorem rep_zero (zs : Array Value) (n : Nat) (hpos : 0 < zs.size) : ((Array.range (n * zs.size)).map (fun i => zs[i % zs.size]!)).toList = (List.replicate n zs.toList).flatten := by
  have hu : Uni zs.size (List.replicate n zs.toList) := Uni.replicate (by simp)
  apply List.ext_getElem?
  intro p
  by_cases hp : p < n * zs.size
  · have h1 : (List.replicate n zs.toList)[p / zs.size]? = some zs.toList := by
      rw [List.getElem?_replicate, if_pos]
      exact (Nat.div_lt_iff_lt_mul hpos).2 hp
    have hm := Nat.mod_lt p hpos
    have h2 : zs.toList[p % zs.size]? = some zs[p % zs.size] := by simp [hm]
    have h3 := flat_cell hu h1 h2
    have h4 : p / zs.size * zs.size + p % zs.size = p := by rw [Nat.mul_comm]; exact Nat.div_add_mod p zs.size
    rw [h4] at h3
    rw [h3]
    simp [hp, hm]
  · rw [List.getElem?_eq_none (by simp; omega), List.getElem?_eq_none (by rw [hu.len]; simp; omega)]

/-- A slice literal: a new row. -/
theorem run_buildSlice {t e : TypeId} {n s : Nat} {ps : Array (Nat × Operand)} {zs : List V} {es : List (List V)} (hu : P.underlying t = some (.slice e)) (hs : sizeT P e = some s) (hlim : n * s ≤ 16777216) (hpos : 1 ≤ s) (hz : zeros P e = some zs)
    (hv : All2 (RepX w S ρ β H) vs ((ps.toList.map (·.2)).map a.eval)) (he : fillEl s (List.replicate n zs) (ps.toList.map (·.1)) vs = some es) :
    ∃ C', (Instr.buildSlice t n (ps.map fun (i, x) => (i, a.eval x))).run P w = .ok (.slice (some ⟨w.heap.size, 0, none⟩) n n) (w.alloc (.cells C' e)) ∧ RepL w S ρ H es.flatten C'.toList ∧ Uni s es ∧ es.length = n := by
  obtain ⟨i, z, hi, hz1, hz2, hz3, hz4⟩ := zeros_rep hz
  obtain ⟨i', hi', rfl⟩ := sizeT_some.1 hs
  rw [hi] at hi'
  cases hi'
  obtain ⟨C0, hC1, hC2, hR0⟩ : ∃ C0 : Array Value, (n * i.size = 0 → C0 = #[]) ∧ (n * i.size ≠ 0 → C0 = z.cells) ∧ RepL w S ρ H (List.replicate n zs).flatten ((Array.range (n * i.size)).map (fun k => C0[k % C0.size]!)).toList := by
    by_cases h0 : n * i.size = 0
    · refine ⟨#[], fun _ => rfl, fun h => absurd h0 h, ?_⟩
      have hn : n = 0 := by
        rcases Nat.mul_eq_zero.1 h0 with h | h
        · exact h
        · omega
      subst hn
      simpa using RepL.nil
    · refine ⟨z.cells, fun h => absurd h h0, fun _ => rfl, ?_⟩
      rw [← hz2, rep_zero _ _ (by omega)]
      clear h0 he hlim
      induction n with
      | zero => simpa using RepL.nil
      | succ n ih => rw [List.replicate_succ, List.replicate_succ, List.flatten_cons, List.flatten_cons]; exact (hz4 w S ρ H).append ih
  obtain ⟨C', hC', hl', hu', hlen⟩ := fillEl_snd (β := β) _ (ps.map fun (i, x) => (i, a.eval x)).toList vs _ es _ he (Uni.replicate hz3) hR0
    (by rw [parts_map]; simpa [List.map_map, Function.comp_def] using hv) (by rw [parts_map]; simp [List.map_map, Function.comp_def])
  refine ⟨C', ?_, hl', hu', by simpa using hlen⟩
  have hnl : ¬ n * i.size > 2 ^ 24 := by omega
  by_cases h0 : n * i.size = 0
  · have := hC1 h0
    subst this
    simp only [Instr.buildSlice, Sem.run_bind, run_underlying hu, Result.andThen_ok, run_sizeOf hi, if_neg hnl, if_pos h0, Sem.run_pure, hC', run_newRow]
  · have := hC2 h0
    subst this
    simp only [Instr.buildSlice, Sem.run_bind, run_underlying hu, Result.andThen_ok, run_sizeOf hi, if_neg hnl, if_neg h0, Sem.run_pure, hC', run_newRow, run_zeroValue hi hz1]

theorem snd_bsl {t e : TypeId} {n s : Nat} {ps : Array (Nat × Operand)} {zs : List V} (ho : o.op = .buildSlice t n ps) (hu : P.underlying t = some (.slice e)) (hs : sizeT P e = some s) (hlim : n * s ≤ 16777216) (hpos : 1 ≤ s) (hz : zeros P e = some zs)
    (hok : Ok w S ρ β M) (hv : All2 (RepX w S ρ β M.H) vs ((ps.toList.map (·.2)).map a.eval)) (he : pureX (.bsl s zs n (ps.toList.map (·.1))) vs = some v) :
    Outc w S ρ β M (.p (.bsl s zs n (ps.toList.map (·.1)))) v M ((execOp a.eval o).run P w) := by
  simp only [pureX, Option.bind_eq_some_iff, Option.some.injEq] at he
  obtain ⟨es, hes, l, hl, rfl⟩ := he
  obtain ⟨C', hrun, hR, hU, hlen⟩ := run_buildSlice (P := P) (w := w) (S := S) (ρ := ρ) (β := β) (H := M.H) (a := a) hu hs hlim hpos hz hv hes
  have hei := optMap_allM hl
  subst hei
  obtain ⟨hok', hst⟩ := hok.allocI (World.grownBy_alloc w (.cells C' e) none) (by simp)
  refine ⟨.value (.slice (some ⟨w.heap.size, 0, none⟩) n n), _, w.alloc (.cells C' e), _, ρ, β, by simp [execOp, ho, hrun], .inl rfl, hok', hst, ?_, fun _ _ => rfl, fun d hd => .inl ⟨d, hd, rfl⟩⟩
  rw [immS_len] at hlen
  have hUI := immS_uni hU
  have hRl := hst.list hR
  rw [immS_flat] at hRl
  have hln : l.length ≤ maxLen := by
    have : l.length * 1 ≤ l.length * s := Nat.mul_le_mul_left _ hpos
    rw [← hlen] at hlim
    unfold maxLen; omega
  have hll := hRl.1
  simp only [List.length_map, hUI.len] at hll
  have := RepI.ofRow (ρ := ρ) (H := M.H) (S := Snew S w) (b := w.heap.size) (cap := l.length) (.inr rfl) (heap_alloc_new w (.cells C' e)) hUI (by rw [List.take_of_length_le (by omega)]; exact hRl) (Nat.le_refl _) hln
  rw [← hlen]
  exact .ls l _ this

theorem snd_s2b {src d e : TypeId} {x : Operand} (ho : o.op = .convert src d x) (hs : P.underlying src = some .string) (hd : P.underlying d = some (.slice e)) (hde : P.underlying e = some (.int .u8))
    (hok : Ok w S ρ β M) (hv : All2 (RepX w S ρ β M.H) vs [a.eval x]) (he : pureX .s2b vs = some v) :
    Outc w S ρ β M (.p .s2b) v M ((execOp a.eval o).run P w) := by
  cases hv with | cons h t1 =>
  cases t1
  simp only [pureX] at he
  split at he
  · rename_i l
    simp only [gd_some, Nat.ble_eq, Option.some.injEq] at he
    obtain ⟨hlen, rfl⟩ := he
    obtain ⟨s, hx, rfl⟩ := repI_str (RepX.toV rfl h)
    have hrun := run_bytes_of_string (P := P) w src d e s hs hd hde
    have hsz : (s.data.toList.map UInt8.toNat).length = s.size := by simp
    rw [hsz] at hlen
    obtain ⟨hok', hst⟩ := hok.allocI (grown_drew_alloc w (.cells (bytesRow s (grownCap w s.size 0 e)) e ((bytesRow s (grownCap w s.size 0 e)).size, (bytesRow s (grownCap w s.size 0 e)).size + 1))) (by simp)
    refine ⟨_, _, _, _, ρ, β, by simp only [execOp, ho, hx, Sem.run_bind, hrun, Result.andThen_ok, Sem.run_pure]; rfl, .inl rfl, hok', hst, ?_, fun _ _ => rfl, fun d hd => .inl ⟨d, hd, rfl⟩⟩
    refine RepX.ofV (.m ?_)
    have hU : Uni 1 ((s.data.toList.map UInt8.toNat).map fun c : Nat => [I.i .u8 (Int.ofNat c)]) := fun e he => by
      simp only [List.mem_map] at he
      obtain ⟨_, _, rfl⟩ := he
      rfl
    have hF : ((s.data.toList.map UInt8.toNat).map fun c : Nat => [I.i .u8 (Int.ofNat c)]).flatten = s.data.toList.map fun c => I.i .u8 (Int.ofNat c.toNat) := by
      rw [List.map_map]
      induction s.data.toList with
      | nil => rfl
      | cons c l ih => rw [List.map_cons, List.flatten_cons, ih]; rfl
    have := RepI.ofRow (ρ := ρ) (H := M.H) (S := Snew S w) (b := w.heap.size) (cap := grownCap w s.size 0 e) (.inr rfl) (heap_alloc_new w.drew (.cells (bytesRow s (grownCap w s.size 0 e)) e ((bytesRow s (grownCap w s.size 0 e)).size, (bytesRow s (grownCap w s.size 0 e)).size + 1))) hU
      (by
        rw [hF]
        have ht : (bytesRow s (grownCap w s.size 0 e)).toList.take (((s.data.toList.map UInt8.toNat).map fun c : Nat => [I.i .u8 (Int.ofNat c)]).length * 1) = s.data.toList.map fun c => Value.int .u8 c.toNat := by
          simp only [List.length_map, Nat.mul_one, bytesRow, Array.toList_append, Array.toList_map]
          rw [List.take_append_of_le_length (by simp), List.take_of_length_le (by simp)]
        rw [ht, List.map_map]
        induction s.data.toList with
        | nil => exact .nil
        | cons c l ih => exact .cons (.m (.i .u8 _)) ih)
      (by simpa using grownCap_ge w s.size 0 e) (grownCap_le_maxLen w s.size 0 e (by unfold maxLen; omega))
    simpa using this
  · cases he

theorem snd_usd {c : Go.Call} (ho : o.op = .call c) (hb : c.callee = .builtin .unsafeSliceData) (hok : Ok w S ρ β M) (hv : All2 (RepX w S ρ β M.H) vs (c.args.toList.map a.eval)) (he : pureX .usd vs = some v) :
    Outc w S ρ β M (.p .usd) v M ((execOp a.eval o).run P w) := by
  cases vs with
  | nil => simp [pureX] at he
  | cons x r =>
    cases r with
    | cons y r => simp [pureX] at he
    | nil =>
      obtain ⟨c0, hargs, h⟩ := hv.inv1
      have hm := args1 hargs
      simp only [pureX] at he
      split at he
      · simp only [Option.some.injEq] at he
        subst he
        have hc := nls_form (RepX.toV rfl h)
        subst hc
        exact .val hok (RepX.ofV (.m .nlp)) (run_call_builtin ho hb (fun _ => by rw [hm]; rfl) (Lib.run_unsafeSliceData_nil w c.argTypes o.type 0 0))
      · rename_i r ver esz st len lim
        simp only [gd_some, Bool.and_eq_true, Nat.beq_eq, Nat.ble_eq, Option.some.injEq] at he
        obtain ⟨⟨⟨rfl, rfl⟩, hlen⟩, rfl⟩ := he
        have h := RepX.toV rfl h
        cases h with | sl _ _ _ _ _ _ ty es base fz ad cap hrow h1 h2 h3 h4 h5 hn hb' ha =>
        obtain ⟨p, rfl⟩ := hn (by omega)
        refine .val hok (RepX.ofV (.pt r ver 0 0 ty 1 es base fz p hrow h2 (by omega) (fun hbv => ?_))) (run_call_builtin ho hb (fun _ => by rw [hm]; rfl) (Lib.run_unsafeSliceData_row w c.argTypes o.type p len cap (by omega)))
        obtain ⟨b, hp, hA⟩ := hb' hbv (by omega)
        exact ⟨b, by simpa using hp, hA⟩
      · cases he
end
end Go.Mx
